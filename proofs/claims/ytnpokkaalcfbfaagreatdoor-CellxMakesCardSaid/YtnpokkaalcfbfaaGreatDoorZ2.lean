/- Models of functions, and that the program does what they tell. -/
import Derived.Test.YtnpokkaalcfbfaaGreatDoorZ1
set_option linter.unusedVariables false
set_option linter.unusedSimpArgs false
namespace Go.Proofs.YtnpokkaalcfbfaaGreatDoor
open Go.X
set_option maxRecDepth 100000
set_option maxHeartbeats 1000000
def stores_Add_b1(N:Nat) (a2:(List (List Int))) (a4:(List (List Int))) (c3:(Option Zt2)) (s3:Zt4):Option (Zt4⊕Zt4):=
 bif(decide (s3.1<((a2.getD 2 []).length:Int)))then
  if(0:Int)<=s3.1/\s3.1<((a2.getD 2 []).length:Int)then
   let c4:=(whole_Clip N (((a2.getD 2 []).getD (s3.1).toNat 0)+((a4.getD 2 []).getD (s3.1).toNat 0)) 0 255)
   if inK .i64 ((a2.getD 2 []).getD (s3.1).toNat 0)/\(0:Int)<=s3.1/\s3.1<((a4.getD 2 []).length:Int)/\inK .i64 (((a2.getD 2 []).getD (s3.1).toNat 0)+((a4.getD 2 []).getD (s3.1).toNat 0))/\c4.isSome=true/\inK .u8 (c4.getD default)/\s3.1<((c3.getD default).2.2.2.1:Int)/\(s3.1).toNat<(c3.getD default).2.2.2.2.2.2.2.2.2.1 then
    if inK .i64 (s3.1+1)then
     some (.inl ((s3.1+1),(decide (s3.1<((a2.getD 2 []).length:Int))),(s3.2.2.set (s3.1).toNat (c4.getD default))))
    else none
   else none
  else none
 else
  some (.inr (s3.1,(decide (s3.1<((a2.getD 2 []).length:Int))),s3.2.2))
def stores_Add_b2(N:Nat) (a2:(List (List Int))) (a4:(List (List Int))) (c3:(Option Zt2)) (s2:Zt4):Option (Zt4⊕Zt4):=
 bif(decide (s2.1<((a2.getD 1 []).length:Int)))then
  if(0:Int)<=s2.1/\s2.1<((a2.getD 1 []).length:Int)then
   let c5:=(whole_Clip N (((a2.getD 1 []).getD (s2.1).toNat 0)+((a4.getD 1 []).getD (s2.1).toNat 0)) 0 255)
   if inK .i64 ((a2.getD 1 []).getD (s2.1).toNat 0)/\(0:Int)<=s2.1/\s2.1<((a4.getD 1 []).length:Int)/\inK .i64 (((a2.getD 1 []).getD (s2.1).toNat 0)+((a4.getD 1 []).getD (s2.1).toNat 0))/\c5.isSome=true/\inK .u8 (c5.getD default)/\s2.1<((c3.getD default).2.2.1:Int)/\(s2.1).toNat<(c3.getD default).2.2.2.2.2.2.2.1 then
    if inK .i64 (s2.1+1)then
     some (.inl ((s2.1+1),(decide (s2.1<((a2.getD 1 []).length:Int))),(s2.2.2.set (s2.1).toNat (c5.getD default))))
    else none
   else none
  else none
 else
  some (.inr (s2.1,(decide (s2.1<((a2.getD 1 []).length:Int))),s2.2.2))
def stores_Add_b3(N:Nat) (a2:(List (List Int))) (a4:(List (List Int))) (c3:(Option Zt2)) (s1:(Int×(List Int))):Option ((Int×(List Int))⊕Zt4):=
 bif(decide (s1.1<((a2.getD 0 []).length:Int)))then
  if(0:Int)<=s1.1/\s1.1<((a2.getD 0 []).length:Int)then
   let c6:=(whole_Clip N (((a2.getD 0 []).getD (s1.1).toNat 0)+((a4.getD 0 []).getD (s1.1).toNat 0)) 0 255)
   if inK .i64 ((a2.getD 0 []).getD (s1.1).toNat 0)/\(0:Int)<=s1.1/\s1.1<((a4.getD 0 []).length:Int)/\inK .i64 (((a2.getD 0 []).getD (s1.1).toNat 0)+((a4.getD 0 []).getD (s1.1).toNat 0))/\c6.isSome=true/\inK .u8 (c6.getD default)/\s1.1<((c3.getD default).2.1:Int)/\(s1.1).toNat<(c3.getD default).2.2.2.2.2.1 then
    if inK .i64 (s1.1+1)then
     some (.inl ((s1.1+1),(s1.2.set (s1.1).toNat (c6.getD default))))
    else none
   else none
  else none
 else
  some (.inr (s1.1,(decide (s1.1<((a2.getD 0 []).length:Int))),s1.2))
def stores_Add(N:Nat)(a1:Int) (a2:(List (List Int))) (a3:Int) (a4:(List (List Int))):Option Zt12:=
 let c1:=(planes_Right N a1 a2)
 let c2:=(stores_Right N a3 a4)
 let x1:=(bif(bif(!(c1.getD default))then true else(!(c2.getD default)))then true else(decide (a1≠a3)))
 if c1.isSome=true/\((!(!(c1.getD default)))=true->c2.isSome=true)then
  bif x1 then
   some (0,[[],[],[]],1)
  else
   let c3:=(planes_New_own N a1 0)
   if c3.isSome=true then
    (iter (stores_Add_b3 N a2 a4 c3) N (0,(c3.getD default).2.2.2.2.2.2.1)).bind fun v1=>
     (iter (stores_Add_b2 N a2 a4 c3) N (0,v1.2.1,(c3.getD default).2.2.2.2.2.2.2.2.1)).bind fun v2=>
      (iter (stores_Add_b1 N a2 a4 c3) N (0,v2.2.1,(c3.getD default).2.2.2.2.2.2.2.2.2.2)).bind fun v3=>
       if(c3.getD default).2.1=v1.2.2.length/\(c3.getD default).2.2.1=v2.2.2.length/\(c3.getD default).2.2.2.1=v3.2.2.length then
        some ((c3.getD default).1,[v1.2.2,v2.2.2,v3.2.2],0)
       else none
   else none
 else none
def sp_stores_Add(N:Nat):X.Spec:=fun args lk=>match args with
 | [.v (.agg [.cs [.int .i64 a1],.fzs 3 (.int .u8) a2]),.v (.agg [.cs [.int .i64 a3],.fzs 3 (.int .i64) a4])]=>some ⟨(stores_Add N a1 a2 a3 a4).isSome=true,.tup [.agg [.cs [.int .i64 ((stores_Add N a1 a2 a3 a4).getD default).1],.fzs 3 (.int .u8) ((stores_Add N a1 a2 a3 a4).getD default).2.1],.c (.int .i64 ((stores_Add N a1 a2 a3 a4).getD default).2.2)],[],[]⟩
 | _=>none
theorem ok_stores_Add(N:Nat):FnOK Tryz.prog gt0 43 (sp_stores_Add N):=by
 refine fnOK_handed Tryz.func43 rfl (by kernel_rfl) ttC_ok (ktCons (ok_whole_Clip N) (ktCons (ok_planes_New_own N) (ktCons (ok_stores_Right N) (ktCons (ok_planes_Right N) (ktNil))))) ?_
 intro args lk r h hp
 unfold sp_stores_Add at h
 split at h
 .rename_i a1 a2 a3 a4
  change (List (List Int))at a2
  change (List (List Int))at a4
  cases h
  obtain⟨x,hT⟩:=sX hp;clear hp
  simp only[hT,Option.getD_some]
  refine hand0 rfl rfl fun w0 M ε0 hX=>rCount fun hε => ?_
  unfold stores_Add at hT
  refine zA hX ?_
  refine rSeq ?_
  let c1:=(planes_Right N a1 a2)
  let c2:=(stores_Right N a3 a4)
  let x1:=(bif(bif(!(c1.getD default))then true else(!(c2.getD default)))then true else(decide (a1≠a3)))
  replace hT:=sIf hT;obtain⟨⟨o1,o2⟩,hT⟩:=hT
  refine rSeq (rRegC md0 hX rfl rfl rfl zO ?_)
  refine rThen ?_
  refine zCond rfl rfl (fun hc => ?_) (fun hc => ?_)
  .replace hT:=sT hc hT
   refine zA hX ?_
   refine rRet (rThenRet (rPackNE 2 (.int .u8) rfl rfl ?_))
   have hy:=sJ hT;subst hy
   exact zEnd0 hX rfl
  .replace hT:=sF hc hT
   refine rSkip (rThen ?_)
   let c3:=(planes_New_own N a1 0)
   replace hT:=sIf hT;obtain⟨o1,hT⟩:=hT
   refine zA hX ?_
   refine rSeq (zA hX ?_)
   refine rBlock (rRounds 24 ?_)
   refine zA hX ?_
   refine rSeq (rCondT rfl rfl zP rfl ?_)
   refine rSkip (rThen (rSeq (rBlock (zA hX ?_))))
   refine zA hX ?_
   refine rBlock ?_
   replace hT:=sBind hT;obtain⟨w1,hl,hT⟩:=hT
   refine rJoinA (fun v1=>v1=w1) (fun v1=>⟨[(3,.v (.c (.ptr 1 0 0 0 0 0))),(4,.v (.c (.ptr 2 0 0 0 0 0))),(5,.v (.c (.int .i64 0))),(6,.v (.c (.ptr 6 0 0 0 0 0))),(8,.v (.c (.int .i64 0))),(9,.v (.c (.fz (.int .u8) (a2.getD 0 [])))),(35,.v (.agg [.fzs 3 (.int .u8) a2])),(36,.v (.c (.int .i64 0))),(37,.v (.c (.bool true))),(38,.v (.c (.int .i64 0))),(39,.v (.c (.fz (.int .u8) (a2.getD 0 [])))),(40,.v (.c (.fz (.int .u8) (a2.getD 0 [])))),(41,.v (.c (.int .i64 ((a2.getD 0 []).length:Int)))),(42,.v (.c (.int .i64 v1.1))),(43,.v (.c (.bool v1.2.1)))],[(1,.mem true 29 none (.flat [.cs [.int .i64 a3],.fzs 3 (.int .i64) a4])),(2,.mem true 25 none (.flat [.cs [.int .i64 0,.val (.slice none 0 0),.val (.slice none 0 0),.val (.slice none 0 0)]])),(3,.mem true 5 (some 0) (.flat [.ints (c3.getD default).2.2.2.2.2.1 .u8 v1.2.2])),(4,.mem true 5 (some 0) (.flat [.ints (c3.getD default).2.2.2.2.2.2.2.1 .u8 (c3.getD default).2.2.2.2.2.2.2.2.1])),(5,.mem true 5 (some 0) (.flat [.ints (c3.getD default).2.2.2.2.2.2.2.2.2.1 .u8 (c3.getD default).2.2.2.2.2.2.2.2.2.2])),(6,.mem true 25 none (.flat [.cs [.int .i64 (c3.getD default).1,.sl 3 0 (c3.getD default).2.1 1,.sl 4 0 (c3.getD default).2.2.1 1,.sl 5 0 (c3.getD default).2.2.2.1 1]]))],7⟩) (.exit 2) (fun v1 hv => ?_) (fun hxs10 => ?_)
   .subst hv;clear hl
    refine rInHit (rInNormal (rThen (zReg md0 hX rfl rfl rfl ?_)))
    refine rRound ?_
    refine zA hX ?_
    refine rSeq (rCondT rfl rfl zP rfl ?_)
    refine rSkip (rThen (rSeq (rBlock (zA hX ?_))))
    refine zA hX ?_
    refine rBlock ?_
    replace hT:=sBind hT;obtain⟨w2,hl,hT⟩:=hT
    refine rJoinA (fun v2=>v2=w2) (fun v2=>⟨[(3,.v (.c (.ptr 1 0 0 0 0 0))),(4,.v (.c (.ptr 2 0 0 0 0 0))),(5,.v (.c (.int .i64 0))),(6,.v (.c (.ptr 6 0 0 0 0 0))),(8,.v (.c (.int .i64 1))),(9,.v (.c (.fz (.int .u8) (a2.getD 1 [])))),(35,.v (.agg [.fzs 3 (.int .u8) a2])),(36,.v (.c (.int .i64 1))),(37,.v (.c (.bool true))),(38,.v (.c (.int .i64 1))),(39,.v (.c (.fz (.int .u8) (a2.getD 1 [])))),(40,.v (.c (.fz (.int .u8) (a2.getD 1 [])))),(41,.v (.c (.int .i64 ((a2.getD 1 []).length:Int)))),(42,.v (.c (.int .i64 v2.1))),(43,.v (.c (.bool v2.2.1))),(66,.v (.c (.int .i64 1)))],[(1,.mem true 29 none (.flat [.cs [.int .i64 a3],.fzs 3 (.int .i64) a4])),(2,.mem true 25 none (.flat [.cs [.int .i64 0,.val (.slice none 0 0),.val (.slice none 0 0),.val (.slice none 0 0)]])),(3,.mem true 5 (some 0) (.flat [.ints (c3.getD default).2.2.2.2.2.1 .u8 v1.2.2])),(4,.mem true 5 (some 0) (.flat [.ints (c3.getD default).2.2.2.2.2.2.2.1 .u8 v2.2.2])),(5,.mem true 5 (some 0) (.flat [.ints (c3.getD default).2.2.2.2.2.2.2.2.2.1 .u8 (c3.getD default).2.2.2.2.2.2.2.2.2.2])),(6,.mem true 25 none (.flat [.cs [.int .i64 (c3.getD default).1,.sl 3 0 (c3.getD default).2.1 1,.sl 4 0 (c3.getD default).2.2.1 1,.sl 5 0 (c3.getD default).2.2.2.1 1]]))],7⟩) (.exit 2) (fun v2 hv => ?_) (fun hxs20 => ?_)
    .subst hv;clear hl
     refine rInHit (rInNormal (rThen (zReg md0 hX rfl rfl rfl ?_)))
     refine rRound ?_
     refine zA hX ?_
     refine rSeq (rCondT rfl rfl zP rfl ?_)
     refine rSkip (rThen (rSeq (rBlock (zA hX ?_))))
     refine zA hX ?_
     refine rBlock ?_
     replace hT:=sBind hT;obtain⟨w3,hl,hT⟩:=hT
     refine rJoinA (fun v3=>v3=w3) (fun v3=>⟨[(3,.v (.c (.ptr 1 0 0 0 0 0))),(4,.v (.c (.ptr 2 0 0 0 0 0))),(5,.v (.c (.int .i64 0))),(6,.v (.c (.ptr 6 0 0 0 0 0))),(8,.v (.c (.int .i64 2))),(9,.v (.c (.fz (.int .u8) (a2.getD 2 [])))),(35,.v (.agg [.fzs 3 (.int .u8) a2])),(36,.v (.c (.int .i64 2))),(37,.v (.c (.bool true))),(38,.v (.c (.int .i64 2))),(39,.v (.c (.fz (.int .u8) (a2.getD 2 [])))),(40,.v (.c (.fz (.int .u8) (a2.getD 2 [])))),(41,.v (.c (.int .i64 ((a2.getD 2 []).length:Int)))),(42,.v (.c (.int .i64 v3.1))),(43,.v (.c (.bool v3.2.1))),(66,.v (.c (.int .i64 2)))],[(1,.mem true 29 none (.flat [.cs [.int .i64 a3],.fzs 3 (.int .i64) a4])),(2,.mem true 25 none (.flat [.cs [.int .i64 0,.val (.slice none 0 0),.val (.slice none 0 0),.val (.slice none 0 0)]])),(3,.mem true 5 (some 0) (.flat [.ints (c3.getD default).2.2.2.2.2.1 .u8 v1.2.2])),(4,.mem true 5 (some 0) (.flat [.ints (c3.getD default).2.2.2.2.2.2.2.1 .u8 v2.2.2])),(5,.mem true 5 (some 0) (.flat [.ints (c3.getD default).2.2.2.2.2.2.2.2.2.1 .u8 v3.2.2])),(6,.mem true 25 none (.flat [.cs [.int .i64 (c3.getD default).1,.sl 3 0 (c3.getD default).2.1 1,.sl 4 0 (c3.getD default).2.2.1 1,.sl 5 0 (c3.getD default).2.2.2.1 1]]))],7⟩) (.exit 2) (fun v3 hv => ?_) (fun hxs30 => ?_)
     .subst hv;clear hl
      refine rInHit (rInNormal (rThen (zReg md0 hX rfl rfl rfl ?_)))
      refine rRound ?_
      refine zA hX ?_
      refine rSeq (rCondF rfl rfl zP rfl ?_)
      refine rExit (rThenExit (rThenExit (rInHit (rThen (zA hX ?_)))))
      refine rRet ?_
      replace hT:=sIf hT;obtain⟨⟨p1,p2,p3⟩,hT⟩:=hT
      refine rFreezeQ 3 (.int .u8) v1.2.2 [(4,.v (.c (.ptr 2 0 0 0 0 0))),(5,.v (.c (.int .i64 0)))] [(2,.mem true 25 none (.flat [.cs [.int .i64 (c3.getD default).1,.fz (.int .u8) v1.2.2,.sl 4 0 (c3.getD default).2.2.1 1,.sl 5 0 (c3.getD default).2.2.2.1 1]])),(4,.mem true 5 (some 0) (.flat [.ints (c3.getD default).2.2.2.2.2.2.2.1 .u8 v2.2.2])),(5,.mem true 5 (some 0) (.flat [.ints (c3.getD default).2.2.2.2.2.2.2.2.2.1 .u8 v3.2.2]))] rfl rfl zF zF ?_
      refine rFreezeQ 4 (.int .u8) v2.2.2 [(4,.v (.c (.ptr 2 0 0 0 0 0))),(5,.v (.c (.int .i64 0)))] [(2,.mem true 25 none (.flat [.cs [.int .i64 (c3.getD default).1,.fz (.int .u8) v1.2.2,.fz (.int .u8) v2.2.2,.sl 5 0 (c3.getD default).2.2.2.1 1]])),(5,.mem true 5 (some 0) (.flat [.ints (c3.getD default).2.2.2.2.2.2.2.2.2.1 .u8 v3.2.2]))] rfl rfl zF zF ?_
      refine rFreezeQ 5 (.int .u8) v3.2.2 [(4,.v (.c (.ptr 2 0 0 0 0 0))),(5,.v (.c (.int .i64 0)))] [(2,.mem true 25 none (.flat [.cs [.int .i64 (c3.getD default).1,.fz (.int .u8) v1.2.2,.fz (.int .u8) v2.2.2,.fz (.int .u8) v3.2.2]]))] rfl rfl zF zF ?_
      refine rPackE 2 rfl rfl ?_
      have hy:=sJ hT;subst hy
      exact zEnd0 hX rfl
     refine rLoopM (stores_Add_b1 N a2 a4 c3) (fun s3=>⟨[(3,.v (.c (.ptr 1 0 0 0 0 0))),(4,.v (.c (.ptr 2 0 0 0 0 0))),(5,.v (.c (.int .i64 0))),(6,.v (.c (.ptr 6 0 0 0 0 0))),(8,.v (.c (.int .i64 2))),(9,.v (.c (.fz (.int .u8) (a2.getD 2 [])))),(35,.v (.agg [.fzs 3 (.int .u8) a2])),(36,.v (.c (.int .i64 2))),(37,.v (.c (.bool true))),(38,.v (.c (.int .i64 2))),(39,.v (.c (.fz (.int .u8) (a2.getD 2 [])))),(40,.v (.c (.fz (.int .u8) (a2.getD 2 [])))),(41,.v (.c (.int .i64 ((a2.getD 2 []).length:Int)))),(42,.v (.c (.int .i64 s3.1))),(43,.v (.c (.bool s3.2.1))),(66,.v (.c (.int .i64 2)))],[(1,.mem true 29 none (.flat [.cs [.int .i64 a3],.fzs 3 (.int .i64) a4])),(2,.mem true 25 none (.flat [.cs [.int .i64 0,.val (.slice none 0 0),.val (.slice none 0 0),.val (.slice none 0 0)]])),(3,.mem true 5 (some 0) (.flat [.ints (c3.getD default).2.2.2.2.2.1 .u8 v1.2.2])),(4,.mem true 5 (some 0) (.flat [.ints (c3.getD default).2.2.2.2.2.2.2.1 .u8 v2.2.2])),(5,.mem true 5 (some 0) (.flat [.ints (c3.getD default).2.2.2.2.2.2.2.2.2.1 .u8 s3.2.2])),(6,.mem true 25 none (.flat [.cs [.int .i64 (c3.getD default).1,.sl 3 0 (c3.getD default).2.1 1,.sl 4 0 (c3.getD default).2.2.1 1,.sl 5 0 (c3.getD default).2.2.2.1 1]]))],7⟩) hl (To.mk' [] 0 hε rfl zL zL) (fun s3 zs3 NNs3 hz hnexts3 houts3 => ?_)
     clear hl hT
     have hT:=hz;clear hz
     refine zA hX ?_
     refine rSeq ?_
     refine zCond rfl rfl (fun hc => ?_) (fun hc => ?_)
     .replace hT:=sT hc hT
      refine rSkip (rThen (rSeq (rBlock ?_)))
      replace hT:=sIf hT;obtain⟨⟨o1,o2⟩,hT⟩:=hT
      refine zA hX ?_
      let c4:=(whole_Clip N (((a2.getD 2 []).getD (s3.1).toNat 0)+((a4.getD 2 []).getD (s3.1).toNat 0)) 0 255)
      replace hT:=sIf hT;obtain⟨⟨o1,o2,o3,o4,o5,o6,o7,o8⟩,hT⟩:=hT
      refine zDraw md0 1 [18] hX mixed rfl rfl rfl rfl rfl ?_
      refine rInNormal (rThen ?_)
      replace hT:=sIf hT;obtain⟨o1,hT⟩:=hT
      refine zReg md0 hX rfl rfl rfl ?_
      exact hnexts3 _ (sJ hT).symm _ (To.mk' [] 0 hε rfl zL zL)
     .replace hT:=sF hc hT
      refine rExit (rThenExit (rThenExit ?_))
      exact zTo [] 0 hε (hxs30 _ (houts3 _ (sJ hT).symm))
    refine rLoopM (stores_Add_b2 N a2 a4 c3) (fun s2=>⟨[(3,.v (.c (.ptr 1 0 0 0 0 0))),(4,.v (.c (.ptr 2 0 0 0 0 0))),(5,.v (.c (.int .i64 0))),(6,.v (.c (.ptr 6 0 0 0 0 0))),(8,.v (.c (.int .i64 1))),(9,.v (.c (.fz (.int .u8) (a2.getD 1 [])))),(35,.v (.agg [.fzs 3 (.int .u8) a2])),(36,.v (.c (.int .i64 1))),(37,.v (.c (.bool true))),(38,.v (.c (.int .i64 1))),(39,.v (.c (.fz (.int .u8) (a2.getD 1 [])))),(40,.v (.c (.fz (.int .u8) (a2.getD 1 [])))),(41,.v (.c (.int .i64 ((a2.getD 1 []).length:Int)))),(42,.v (.c (.int .i64 s2.1))),(43,.v (.c (.bool s2.2.1))),(66,.v (.c (.int .i64 1)))],[(1,.mem true 29 none (.flat [.cs [.int .i64 a3],.fzs 3 (.int .i64) a4])),(2,.mem true 25 none (.flat [.cs [.int .i64 0,.val (.slice none 0 0),.val (.slice none 0 0),.val (.slice none 0 0)]])),(3,.mem true 5 (some 0) (.flat [.ints (c3.getD default).2.2.2.2.2.1 .u8 v1.2.2])),(4,.mem true 5 (some 0) (.flat [.ints (c3.getD default).2.2.2.2.2.2.2.1 .u8 s2.2.2])),(5,.mem true 5 (some 0) (.flat [.ints (c3.getD default).2.2.2.2.2.2.2.2.2.1 .u8 (c3.getD default).2.2.2.2.2.2.2.2.2.2])),(6,.mem true 25 none (.flat [.cs [.int .i64 (c3.getD default).1,.sl 3 0 (c3.getD default).2.1 1,.sl 4 0 (c3.getD default).2.2.1 1,.sl 5 0 (c3.getD default).2.2.2.1 1]]))],7⟩) hl (To.mk' [] 0 hε rfl zL zL) (fun s2 zs2 NNs2 hz hnexts2 houts2 => ?_)
    clear hl hT
    have hT:=hz;clear hz
    refine zA hX ?_
    refine rSeq ?_
    refine zCond rfl rfl (fun hc => ?_) (fun hc => ?_)
    .replace hT:=sT hc hT
     refine rSkip (rThen (rSeq (rBlock ?_)))
     replace hT:=sIf hT;obtain⟨⟨o1,o2⟩,hT⟩:=hT
     refine zA hX ?_
     let c5:=(whole_Clip N (((a2.getD 1 []).getD (s2.1).toNat 0)+((a4.getD 1 []).getD (s2.1).toNat 0)) 0 255)
     replace hT:=sIf hT;obtain⟨⟨o1,o2,o3,o4,o5,o6,o7,o8⟩,hT⟩:=hT
     refine zDraw md0 1 [18] hX mixed rfl rfl rfl rfl rfl ?_
     refine rInNormal (rThen ?_)
     replace hT:=sIf hT;obtain⟨o1,hT⟩:=hT
     refine zReg md0 hX rfl rfl rfl ?_
     exact hnexts2 _ (sJ hT).symm _ (To.mk' [] 0 hε rfl zL zL)
    .replace hT:=sF hc hT
     refine rExit (rThenExit (rThenExit ?_))
     exact zTo [] 0 hε (hxs20 _ (houts2 _ (sJ hT).symm))
   refine rLoopM (stores_Add_b3 N a2 a4 c3) (fun s1=>⟨[(3,.v (.c (.ptr 1 0 0 0 0 0))),(4,.v (.c (.ptr 2 0 0 0 0 0))),(5,.v (.c (.int .i64 0))),(6,.v (.c (.ptr 6 0 0 0 0 0))),(8,.v (.c (.int .i64 0))),(9,.v (.c (.fz (.int .u8) (a2.getD 0 [])))),(35,.v (.agg [.fzs 3 (.int .u8) a2])),(36,.v (.c (.int .i64 0))),(37,.v (.c (.bool true))),(38,.v (.c (.int .i64 0))),(39,.v (.c (.fz (.int .u8) (a2.getD 0 [])))),(40,.v (.c (.fz (.int .u8) (a2.getD 0 [])))),(41,.v (.c (.int .i64 ((a2.getD 0 []).length:Int)))),(42,.v (.c (.int .i64 s1.1)))],[(1,.mem true 29 none (.flat [.cs [.int .i64 a3],.fzs 3 (.int .i64) a4])),(2,.mem true 25 none (.flat [.cs [.int .i64 0,.val (.slice none 0 0),.val (.slice none 0 0),.val (.slice none 0 0)]])),(3,.mem true 5 (some 0) (.flat [.ints (c3.getD default).2.2.2.2.2.1 .u8 s1.2])),(4,.mem true 5 (some 0) (.flat [.ints (c3.getD default).2.2.2.2.2.2.2.1 .u8 (c3.getD default).2.2.2.2.2.2.2.2.1])),(5,.mem true 5 (some 0) (.flat [.ints (c3.getD default).2.2.2.2.2.2.2.2.2.1 .u8 (c3.getD default).2.2.2.2.2.2.2.2.2.2])),(6,.mem true 25 none (.flat [.cs [.int .i64 (c3.getD default).1,.sl 3 0 (c3.getD default).2.1 1,.sl 4 0 (c3.getD default).2.2.1 1,.sl 5 0 (c3.getD default).2.2.2.1 1]]))],7⟩) hl (To.mk' [] 0 hε rfl zL zL) (fun s1 zs1 NNs1 hz hnexts1 houts1 => ?_)
   clear hl hT
   have hT:=hz;clear hz
   refine zA hX ?_
   refine rSeq ?_
   refine zCond rfl rfl (fun hc => ?_) (fun hc => ?_)
   .replace hT:=sT hc hT
    refine rSkip (rThen (rSeq (rBlock ?_)))
    replace hT:=sIf hT;obtain⟨⟨o1,o2⟩,hT⟩:=hT
    refine zA hX ?_
    let c6:=(whole_Clip N (((a2.getD 0 []).getD (s1.1).toNat 0)+((a4.getD 0 []).getD (s1.1).toNat 0)) 0 255)
    replace hT:=sIf hT;obtain⟨⟨o1,o2,o3,o4,o5,o6,o7,o8⟩,hT⟩:=hT
    refine zDraw md0 1 [18] hX mixed rfl rfl rfl rfl rfl ?_
    refine rInNormal (rThen ?_)
    replace hT:=sIf hT;obtain⟨o1,hT⟩:=hT
    refine zReg md0 hX rfl rfl rfl ?_
    exact hnexts1 _ (sJ hT).symm _ (To.mk' [] 0 hε rfl zL zL)
   .replace hT:=sF hc hT
    refine rExit (rThenExit (rThenExit ?_))
    exact zTo [] 0 hε (hxs10 _ (houts1 _ (sJ hT).symm))
 .cases h
def formats_Cells(N:Nat)(a1:Int):Option (Int×Int):=
 let c1:=(formats_Size N a1)
 if c1.isSome=true then
  if(0:Int)<=(c1.getD default).1/\(0:Int)<=(c1.getD default).2.1 then
   some (((c1.getD default).1/16),((c1.getD default).2.1/16))
  else none
 else none
def sp_formats_Cells(N:Nat):X.Spec:=fun args lk=>match args with
 | [.v (.c (.int .i64 a1))]=>some ⟨(formats_Cells N a1).isSome=true,.tup [.c (.int .i64 ((formats_Cells N a1).getD default).1),.c (.int .i64 ((formats_Cells N a1).getD default).2)],[],[]⟩
 | _=>none
theorem ok_formats_Cells(N:Nat):FnOK Tryz.prog gt0 67 (sp_formats_Cells N):=by
 refine fnOK_handed Tryz.func67 rfl (by kernel_rfl) tt_ok (ktCons (ok_formats_Size N) (ktNil)) ?_
 intro args lk r h hp
 unfold sp_formats_Cells at h
 split at h
 .rename_i a1
  cases h
  obtain⟨x,hT⟩:=sX hp;clear hp
  simp only[hT,Option.getD_some]
  refine hand0 rfl rfl fun w0 M ε0 hX=>rCount fun hε => ?_
  unfold formats_Cells at hT
  refine zA hX ?_
  let c1:=(formats_Size N a1)
  replace hT:=sIf hT;obtain⟨o1,hT⟩:=hT
  refine zA hX ?_
  replace hT:=sIf hT;obtain⟨⟨o1,o2⟩,hT⟩:=hT
  refine zA hX ?_
  refine rRet ?_
  have hy:=sJ hT;subst hy
  exact zEnd0 hX rfl
 .cases h
def motion_within(N:Nat)(a1:Int)(a2:Int)(a3:Int):Option Bool:=
 if((decide ((0:Int)<=a1))=true->inK .i64 (a1+1))/\((decide ((0:Int)<=a1))=true->(0:Int)<=(a1+1))/\((decide ((0:Int)<=a1))=true->inK .i64 (((a1+1)/2)+a2))then
  some (bif(decide ((0:Int)<=a1))then(decide ((((a1+1)/2)+a2)<=a3))else false)
 else none
def sp_motion_within(N:Nat):X.Spec:=fun args lk=>match args with
 | [.v (.c (.int .i64 a1)),.v (.c (.int .i64 a2)),.v (.c (.int .i64 a3))]=>some ⟨(motion_within N a1 a2 a3).isSome=true,.v (.c (.bool ((motion_within N a1 a2 a3).getD default))),[],[]⟩
 | _=>none
theorem ok_motion_within(N:Nat):FnOK Tryz.prog gt0 99 (sp_motion_within N):=by
 refine fnOK_handed Tryz.func99 rfl (by kernel_rfl) tt_ok (ktNil) ?_
 intro args lk r h hp
 unfold sp_motion_within at h
 split at h
 .rename_i a1 a2 a3
  cases h
  obtain⟨x,hT⟩:=sX hp;clear hp
  simp only[hT,Option.getD_some]
  refine hand0 rfl rfl fun w0 M ε0 hX=>rCount fun hε => ?_
  unfold motion_within at hT
  refine zA hX ?_
  replace hT:=sIf hT;obtain⟨⟨o1,o2,o3⟩,hT⟩:=hT
  refine rSeq (rRegC md0 hX rfl rfl rfl zO ?_)
  refine rThen (rRet ?_)
  have hy:=sJ hT;subst hy
  exact zEnd0 hX rfl
 .cases h
def motion_May_b1(N:Nat)(a3:(List Int))(s1:Int):Option (Int⊕(Unit⊕Unit)):=
 bif(decide (s1<2))then
  if(0:Int)<=s1/\s1<2/\(s1).toNat<2 then
   let x2:=(bif(decide ((a3.getD (s1).toNat 0)<(-32)))then true else(decide ((31:Int)<(a3.getD (s1).toNat 0))))
   bif x2 then
    some (.inr (Sum.inl ()))
   else
    if inK .i64 (s1+1)then
     some (.inl (s1+1))
    else none
  else none
 else
  some (.inr (Sum.inr ()))
def motion_May(N:Nat)(a1:Int)(a2:Int)(a3:(List Int)):Option Bool:=
 let c1:=(formats_Cells N a1)
 if c1.isSome=true then
  let c2:=(formats_Size N a1)
  if c2.isSome=true then
   let x1:=(bif(bif(!(c2.getD default).2.2)then true else(decide (a2<0)))then true else(decide (((c1.getD default).1*(c1.getD default).2)<=a2)))
   if((!(bif(!(c2.getD default).2.2)then true else(decide (a2<0))))=true->inK .i64 ((c1.getD default).1*(c1.getD default).2))then
    bif x1 then
     some false
    else
     (iter (motion_May_b1 N a3) N 0).bind fun w1=>
      (Sum.elim (fun v1=>
       some false
      )
       (fun v2=>
        let c3:=(motion_within N (((32:Int)*(a2%(c1.getD default).1))+(a3.getD 0 0)) 16 (c2.getD default).1)
        let c4:=(motion_within N (((32:Int)*(a2/(c1.getD default).1))+(a3.getD 1 0)) 16 (c2.getD default).2.1)
        if(0:Int)<=a2/\(0:Int)<(c1.getD default).1/\inK .i64 ((32:Int)*(a2%(c1.getD default).1))/\inK .i64 (((32:Int)*(a2%(c1.getD default).1))+(a3.getD 0 0))/\c3.isSome=true/\((c3.getD default)=true->(0:Int)<=a2)/\((c3.getD default)=true->(0:Int)<(c1.getD default).1)/\((c3.getD default)=true->inK .i64 ((32:Int)*(a2/(c1.getD default).1)))/\((c3.getD default)=true->inK .i64 (((32:Int)*(a2/(c1.getD default).1))+(a3.getD 1 0)))/\((c3.getD default)=true->c4.isSome=true)then
         some (bif(c3.getD default)then(c4.getD default)else false)
        else none
       )
      ) w1
   else none
  else none
 else none
def sp_motion_May(N:Nat):X.Spec:=fun args lk=>match args with
 | [.v (.c (.int .i64 a1)),.v (.c (.int .i64 a2)),.v (.agg [.ints 2 .i64 a3])]=>some ⟨(motion_May N a1 a2 a3).isSome=true,.v (.c (.bool ((motion_May N a1 a2 a3).getD default))),[],[]⟩
 | _=>none
theorem ok_motion_May(N:Nat):FnOK Tryz.prog gt0 68 (sp_motion_May N):=by
 refine fnOK_handed Tryz.func68 rfl (by kernel_rfl) tt_ok (ktCons (ok_motion_within N) (ktCons (ok_formats_Size N) (ktCons (ok_formats_Cells N) (ktNil)))) ?_
 intro args lk r h hp
 unfold sp_motion_May at h
 split at h
 .rename_i a1 a2 a3
  change (List Int)at a3
  cases h
  obtain⟨x,hT⟩:=sX hp;clear hp
  simp only[hT,Option.getD_some]
  refine hand0 rfl rfl fun w0 M ε0 hX=>rCount fun hε => ?_
  unfold motion_May at hT
  refine zA hX ?_
  let c1:=(formats_Cells N a1)
  replace hT:=sIf hT;obtain⟨o1,hT⟩:=hT
  refine zA hX ?_
  let c2:=(formats_Size N a1)
  replace hT:=sIf hT;obtain⟨o1,hT⟩:=hT
  refine zA hX ?_
  refine rSeq ?_
  let x1:=(bif(bif(!(c2.getD default).2.2)then true else(decide (a2<0)))then true else(decide (((c1.getD default).1*(c1.getD default).2)<=a2)))
  replace hT:=sIf hT;obtain⟨o1,hT⟩:=hT
  refine rSeq (rRegC md0 hX rfl rfl rfl zO ?_)
  refine rThen ?_
  refine zCond rfl rfl (fun hc => ?_) (fun hc => ?_)
  .replace hT:=sT hc hT
   refine zA hX ?_
   refine rRet (rThenRet ?_)
   have hy:=sJ hT;subst hy
   exact zEnd0 hX rfl
  .replace hT:=sF hc hT
   refine rSkip (rThen (rSeq (zA hX ?_)))
   refine rBlock ?_
   replace hT:=sBind hT;obtain⟨w1,hl,hT⟩:=hT
   refine rJoinA (fun v1=>(Sum.inl v1)=w1) (fun v1=>⟨[(6,.v (.c (.bool false)))],[],1⟩) .ret (fun v1 hv => ?_) (fun hxs10 => ?_)
   .subst hv;clear hl;replace hT:=(sElimL hT)
    refine rInRet (rThenRet ?_)
    have hy:=sJ hT;subst hy
    exact zEnd0 hX rfl
   refine rJoinA (fun v2=>(Sum.inr v2)=w1) (fun v2=>⟨[(1,.v (.c (.int .i64 a2))),(5,.v (.c (.ptr 0 0 0 0 0 0))),(6,.v (.c (.bool false))),(7,.v (.c (.int .i64 (c1.getD default).1))),(9,.v (.c (.int .i64 (c2.getD default).1))),(10,.v (.c (.int .i64 (c2.getD default).2.1)))],[(0,.mem true 30 none (.flat [.ints 2 .i64 a3]))],1⟩) (.exit 0) (fun v2 hv => ?_) (fun hxs11 => ?_)
   .subst hv;clear hl;replace hT:=(sElimR hT)
    refine rInHit (rThen ?_)
    let c3:=(motion_within N (((32:Int)*(a2%(c1.getD default).1))+(a3.getD 0 0)) 16 (c2.getD default).1)
    let c4:=(motion_within N (((32:Int)*(a2/(c1.getD default).1))+(a3.getD 1 0)) 16 (c2.getD default).2.1)
    replace hT:=sIf hT;obtain⟨⟨o1,o2,o3,o4,o5,o6,o7,o8,o9,o10⟩,hT⟩:=hT
    refine rSeq (rDrawM md0 0 [] hX mixed rfl rfl rfl rfl rfl zO ?_)
    refine rThen (rRet ?_)
    have hy:=sJ hT;subst hy
    exact zEnd0 hX rfl
   refine rLoopM (motion_May_b1 N a3) (fun s1=>⟨[(1,.v (.c (.int .i64 a2))),(5,.v (.c (.ptr 0 0 0 0 0 0))),(6,.v (.c (.bool false))),(7,.v (.c (.int .i64 (c1.getD default).1))),(9,.v (.c (.int .i64 (c2.getD default).1))),(10,.v (.c (.int .i64 (c2.getD default).2.1))),(38,.v (.agg [.ints 2 .i64 a3])),(39,.v (.c (.int .i64 s1)))],[(0,.mem true 30 none (.flat [.ints 2 .i64 a3]))],1⟩) hl (To.mk' [] 0 hε rfl zL zL) (fun s1 zs1 NNs1 hz hnexts1 houts1 => ?_)
   clear hl hT
   have hT:=hz;clear hz
   refine zA hX ?_
   refine rSeq ?_
   refine zCond rfl rfl (fun hc => ?_) (fun hc => ?_)
   .replace hT:=sT hc hT
    refine rSkip (rThen (rSeq (rBlock ?_)))
    replace hT:=sIf hT;obtain⟨⟨o1,o2,o3⟩,hT⟩:=hT
    refine zA hX ?_
    let x2:=(bif(decide ((a3.getD (s1).toNat 0)<(-32)))then true else(decide ((31:Int)<(a3.getD (s1).toNat 0))))
    refine zA hX ?_
    refine zCond rfl rfl (fun hc => ?_) (fun hc => ?_)
    .replace hT:=sT hc hT
     refine zA hX ?_
     refine rRet (rInRet (rThenRet (rThenRet ?_)))
     exact zTo [] 0 hε (hxs10 _ (houts1 _ (sJ hT).symm))
    .replace hT:=sF hc hT
     refine rSkip (rInNormal (rThen ?_))
     replace hT:=sIf hT;obtain⟨o1,hT⟩:=hT
     refine zReg md0 hX rfl rfl rfl ?_
     exact hnexts1 _ (sJ hT).symm _ (To.mk' [] 0 hε rfl zL zL)
   .replace hT:=sF hc hT
    refine rExit (rThenExit (rThenExit ?_))
    exact zTo [] 0 hε (hxs11 _ (houts1 _ (sJ hT).symm))
 .cases h
def motion_halves(N:Nat)(a1:(List Int))(a2:Int):Option ((List Int)×Int):=
 some (a1,a2)
def sp_motion_halves(N:Nat):X.Spec:=fun args lk=>match args with
 | [.v (.c (.fz (.int .u8) a1)),.v (.c (.int .i64 a2))]=>some ⟨(motion_halves N a1 a2).isSome=true,.v (.c (.clo 101 [0])),[.mem true 75 none (.flat [.cs [.clo 100 [1,2]]]),.mem true 22 none (.flat [.cs [.fz (.int .u8) ((motion_halves N a1 a2).getD default).1]]),.mem true 3 none (.flat [.cs [.int .i64 ((motion_halves N a1 a2).getD default).2]])],[]⟩
 | _=>none
theorem ok_motion_halves(N:Nat):FnOK Tryz.prog gt0 69 (sp_motion_halves N):=by
 refine fnOK_handed Tryz.func69 rfl (by kernel_rfl) tt_ok (ktNil) ?_
 intro args lk r h hp
 unfold sp_motion_halves at h
 split at h
 .rename_i a1 a2
  change (List Int)at a1
  cases h
  obtain⟨x,hT⟩:=sX hp;clear hp
  simp only[hT,Option.getD_some]
  refine hand0 rfl rfl fun w0 M ε0 hX=>rCount fun hε => ?_
  unfold motion_halves at hT
  refine zA hX ?_
  refine zA hX ?_
  refine zA hX ?_
  refine rRet ?_
  have hy:=sJ hT;subst hy
  exact rEndA [2,0,1] [.mem true 75 none (.flat [.cs [.clo 100 [0,1]]]),.mem true 22 none (.flat [.cs [.fz (.int .u8) a1]]),.mem true 3 none (.flat [.cs [.int .i64 a2]])] [] (.v (.c (.clo 101 [2]))) hX rfl zZ zL rfl rfl rfl zT rfl rfl zT rfl rfl
 .cases h
def motion_halves_1(N:Nat)(a1:Int)(a2:Int)(a3:(List Int))(a4:Int):Option Int:=
 if inK .i64 (a2*a4)/\inK .i64 ((a2*a4)+a1)/\(0:Int)<=((a2*a4)+a1)/\((a2*a4)+a1)<(a3.length:Int)/\inK .i64 (a3.getD ((a2*a4)+a1).toNat 0)then
  some (a3.getD ((a2*a4)+a1).toNat 0)
 else none
def sp_motion_halves_1(N:Nat):X.Spec:=fun args lk=>match args with
 | [.v (.c (.int .i64 a1)),.v (.c (.int .i64 a2)),.v (.c (.ptr i0 0 0 0 0 0)),.v (.c (.ptr i1 0 0 0 0 0))]=>(match lk i0 with
  | some (.mem _ _ _ (.flat [.cs [.fz (.int .u8) a3]]))=>(match lk i1 with
  | some (.mem _ _ _ (.flat [.cs [.int .i64 a4]]))=>some ⟨(motion_halves_1 N a1 a2 a3 a4).isSome=true,.v (.c (.int .i64 ((motion_halves_1 N a1 a2 a3 a4).getD default))),[],[]⟩
  | _=>none)
  | _=>none)
 | _=>none
theorem ok_motion_halves_1(N:Nat):FnOK Tryz.prog gt0 100 (sp_motion_halves_1 N):=by
 refine fnOK_handed Tryz.func100 rfl (by kernel_rfl) tt_ok (ktNil) ?_
 intro args lk r h hp
 unfold sp_motion_halves_1 at h
 split at h
 .rename_i a1 a2 i0 i1
  split at h
  .rename_i _ _ _ a3 hl0
   split at h
   .rename_i _ _ _ a4 hl1
    change (List Int)at a3
    cases h
    obtain⟨x,hT⟩:=sX hp;clear hp
    simp only[hT,Option.getD_some]
    refine handL [i0,i1] 2 [(0,.mem false 22 none (.flat [.cs [.fz (.int .u8) a3]])),(1,.mem false 3 none (.flat [.cs [.int .i64 a4]]))] [.v (.c (.int .i64 a1)),.v (.c (.int .i64 a2)),.v (.c (.ptr 0 0 0 0 0 0)),.v (.c (.ptr 1 0 0 0 0 0))] rfl rfl rfl ⟨isSome_of hl1,isSome_of hl0,trivial⟩ ⟨⟨rfl,zT,_,hl0,sub_ro⟩,⟨rfl,zT,_,hl1,sub_ro⟩,trivial⟩ rfl (fun w0 M ε0 hX => ?_)
    refine rCount (fun hε => ?_)
    unfold motion_halves_1 at hT
    refine zA hX ?_
    replace hT:=sIf hT;obtain⟨⟨o1,o2,o3,o4,o5⟩,hT⟩:=hT
    refine zA hX ?_
    refine rRet ?_
    have hy:=sJ hT;subst hy
    exact zEnd0 hX rfl
   .cases h
  .cases h
 .cases h
def motion_halves_2(N:Nat)(a1:Int)(a2:Int)(a3:(List Int))(a4:Int):Option Int:=
 if(0:Int)<=a1/\(0:Int)<=a2 then
  if(0:Int)<=a1/\((decide ((a1%2)=0))=true->(0:Int)<=a2)then
   bif(bif(decide ((a1%2)=0))then(decide ((a2%2)=0))else false)then
    let c1:=(motion_halves_1 N (a1/2) (a2/2) a3 a4)
    if c1.isSome=true then
     some (c1.getD default)
    else none
   else
    if(0:Int)<=a2 then
     bif(decide ((a2%2)=0))then
      let c2:=(motion_halves_1 N (a1/2) (a2/2) a3 a4)
      let c3:=(motion_halves_1 N ((a1/2)+1) (a2/2) a3 a4)
      if c2.isSome=true/\inK .i64 ((a1/2)+1)/\c3.isSome=true/\inK .i64 ((c2.getD default)+(c3.getD default))/\inK .i64 (((c2.getD default)+(c3.getD default))+1)/\(0:Int)<=(((c2.getD default)+(c3.getD default))+1)then
       some ((((c2.getD default)+(c3.getD default))+1)/2)
      else none
     else
      if(0:Int)<=a1 then
       bif(decide ((a1%2)=0))then
        let c4:=(motion_halves_1 N (a1/2) (a2/2) a3 a4)
        let c5:=(motion_halves_1 N (a1/2) ((a2/2)+1) a3 a4)
        if c4.isSome=true/\inK .i64 ((a2/2)+1)/\c5.isSome=true/\inK .i64 ((c4.getD default)+(c5.getD default))/\inK .i64 (((c4.getD default)+(c5.getD default))+1)/\(0:Int)<=(((c4.getD default)+(c5.getD default))+1)then
         some ((((c4.getD default)+(c5.getD default))+1)/2)
        else none
       else
        let c6:=(motion_halves_1 N (a1/2) (a2/2) a3 a4)
        let c7:=(motion_halves_1 N ((a1/2)+1) (a2/2) a3 a4)
        let c8:=(motion_halves_1 N (a1/2) ((a2/2)+1) a3 a4)
        let c9:=(motion_halves_1 N ((a1/2)+1) ((a2/2)+1) a3 a4)
        let x1:=((((((c6.getD default)+(c7.getD default))+(c8.getD default))+(c9.getD default))+2)/4)
        if c6.isSome=true/\inK .i64 ((a1/2)+1)/\c7.isSome=true/\inK .i64 ((c6.getD default)+(c7.getD default))/\inK .i64 ((a2/2)+1)/\c8.isSome=true/\inK .i64 (((c6.getD default)+(c7.getD default))+(c8.getD default))/\c9.isSome=true/\inK .i64 ((((c6.getD default)+(c7.getD default))+(c8.getD default))+(c9.getD default))/\inK .i64 (((((c6.getD default)+(c7.getD default))+(c8.getD default))+(c9.getD default))+2)/\(0:Int)<=(((((c6.getD default)+(c7.getD default))+(c8.getD default))+(c9.getD default))+2)then
         some x1
        else none
      else none
    else none
  else none
 else none
def sp_motion_halves_2(N:Nat):X.Spec:=fun args lk=>match args with
 | [.v (.c (.int .i64 a1)),.v (.c (.int .i64 a2)),.v (.c (.ptr i0 0 0 0 0 0))]=>(match lk i0 with
  | some (.mem _ _ _ (.flat [.cs [.clo 100 [i1,i2]]]))=>(match lk i1 with
  | some (.mem _ _ _ (.flat [.cs [.fz (.int .u8) a3]]))=>(match lk i2 with
  | some (.mem _ _ _ (.flat [.cs [.int .i64 a4]]))=>some ⟨(motion_halves_2 N a1 a2 a3 a4).isSome=true,.v (.c (.int .i64 ((motion_halves_2 N a1 a2 a3 a4).getD default))),[],[]⟩
  | _=>none)
  | _=>none)
  | _=>none)
 | _=>none
theorem ok_motion_halves_2(N:Nat):FnOK Tryz.prog gt0 101 (sp_motion_halves_2 N):=by
 refine fnOK_handed Tryz.func101 rfl (by kernel_rfl) tt_ok (ktCons (ok_motion_halves_1 N) (ktNil)) ?_
 intro args lk r h hp
 unfold sp_motion_halves_2 at h
 split at h
 .rename_i a1 a2 i0
  split at h
  .rename_i _ _ _ i1 i2 hl0
   split at h
   .rename_i _ _ _ a3 hl1
    split at h
    .rename_i _ _ _ a4 hl2
     change (List Int)at a3
     cases h
     obtain⟨x,hT⟩:=sX hp;clear hp
     simp only[hT,Option.getD_some]
     refine handL [i0,i1,i2] 3 [(0,.mem false 75 none (.flat [.cs [.clo 100 [1,2]]])),(1,.mem false 22 none (.flat [.cs [.fz (.int .u8) a3]])),(2,.mem false 3 none (.flat [.cs [.int .i64 a4]]))] [.v (.c (.int .i64 a1)),.v (.c (.int .i64 a2)),.v (.c (.ptr 0 0 0 0 0 0))] rfl rfl rfl ⟨isSome_of hl2,isSome_of hl1,isSome_of hl0,trivial⟩ ⟨⟨rfl,zT,_,hl0,sub_ro⟩,⟨rfl,zT,_,hl1,sub_ro⟩,⟨rfl,zT,_,hl2,sub_ro⟩,trivial⟩ rfl (fun w0 M ε0 hX => ?_)
     refine rCount (fun hε => ?_)
     unfold motion_halves_2 at hT
     refine zA hX ?_
     replace hT:=sIf hT;obtain⟨⟨o1,o2⟩,hT⟩:=hT
     refine zA hX ?_
     refine rSeq (rBlock ?_)
     replace hT:=sIf hT;obtain⟨⟨o1,o2⟩,hT⟩:=hT
     refine rSeq (rRegC md0 hX rfl rfl rfl zO ?_)
     refine rThen ?_
     refine zCond rfl rfl (fun hc => ?_) (fun hc => ?_)
     .replace hT:=sT hc hT
      let c1:=(motion_halves_1 N (a1/2) (a2/2) a3 a4)
      replace hT:=sIf hT;obtain⟨o1,hT⟩:=hT
      refine zA hX ?_
      refine rRet (rInRet (rThenRet ?_))
      have hy:=sJ hT;subst hy
      exact zEnd0 hX rfl
     .replace hT:=sF hc hT
      replace hT:=sIf hT;obtain⟨o1,hT⟩:=hT
      refine zA hX ?_
      refine zCond rfl rfl (fun hc => ?_) (fun hc => ?_)
      .replace hT:=sT hc hT
       let c2:=(motion_halves_1 N (a1/2) (a2/2) a3 a4)
       let c3:=(motion_halves_1 N ((a1/2)+1) (a2/2) a3 a4)
       replace hT:=sIf hT;obtain⟨⟨o1,o2,o3,o4,o5,o6⟩,hT⟩:=hT
       refine rSeq (zDraw md0 0 [] hX mixed rfl rfl rfl rfl rfl ?_)
       refine rThen (rRet (rInRet (rThenRet ?_)))
       have hy:=sJ hT;subst hy
       exact zEnd0 hX rfl
      .replace hT:=sF hc hT
       replace hT:=sIf hT;obtain⟨o1,hT⟩:=hT
       refine zA hX ?_
       refine zCond rfl rfl (fun hc => ?_) (fun hc => ?_)
       .replace hT:=sT hc hT
        let c4:=(motion_halves_1 N (a1/2) (a2/2) a3 a4)
        let c5:=(motion_halves_1 N (a1/2) ((a2/2)+1) a3 a4)
        replace hT:=sIf hT;obtain⟨⟨o1,o2,o3,o4,o5,o6⟩,hT⟩:=hT
        refine rSeq (zDraw md0 0 [] hX mixed rfl rfl rfl rfl rfl ?_)
        refine rThen (rRet (rInRet (rThenRet ?_)))
        have hy:=sJ hT;subst hy
        exact zEnd0 hX rfl
       .replace hT:=sF hc hT
        refine rSkip (rInNormal (rThen ?_))
        let c6:=(motion_halves_1 N (a1/2) (a2/2) a3 a4)
        let c7:=(motion_halves_1 N ((a1/2)+1) (a2/2) a3 a4)
        let c8:=(motion_halves_1 N (a1/2) ((a2/2)+1) a3 a4)
        let c9:=(motion_halves_1 N ((a1/2)+1) ((a2/2)+1) a3 a4)
        let x1:=((((((c6.getD default)+(c7.getD default))+(c8.getD default))+(c9.getD default))+2)/4)
        replace hT:=sIf hT;obtain⟨⟨o1,o2,o3,o4,o5,o6,o7,o8,o9,o10,o11⟩,hT⟩:=hT
        refine rSeq (zDraw md0 0 [] hX mixed rfl rfl rfl rfl rfl ?_)
        refine rThen (rRet ?_)
        have hy:=sJ hT;subst hy
        exact zEnd0 hX rfl
    .cases h
   .cases h
  .cases h
 .cases h
def motion_laid_halves_2_b1(N:Nat)(a1:Int)(a2:Int)(a3:(List Int))(a4:Int) (s1:(Int×(List Int))):Option ((Int×(List Int))⊕(List Int)):=
 bif(decide (s1.1<64))then
  let c1:=(motion_halves_2 N (a1+((2:Int)*(s1.1%8))) (a2+((2:Int)*(s1.1/8))) a3 a4)
  if(0:Int)<=s1.1/\inK .i64 ((2:Int)*(s1.1%8))/\inK .i64 (a1+((2:Int)*(s1.1%8)))/\inK .i64 ((2:Int)*(s1.1/8))/\inK .i64 (a2+((2:Int)*(s1.1/8)))/\c1.isSome=true/\s1.1<64/\(s1.1).toNat<64 then
   if inK .i64 (s1.1+1)then
    some (.inl ((s1.1+1),(s1.2.set (s1.1).toNat (c1.getD default))))
   else none
  else none
 else
  some (.inr s1.2)
def motion_laid_halves_2(N:Nat)(a1:Int)(a2:Int)(a3:(List Int))(a4:Int):Option (List Int):=
 (iter (motion_laid_halves_2_b1 N a1 a2 a3 a4) N (0,(List.replicate 64 0))).bind fun v1=>
  some v1
def sp_motion_laid_halves_2(N:Nat):X.Spec:=fun args lk=>match args with
 | [.v (.c (.clo 101 [i0])),.v (.c (.int .i64 a1)),.v (.c (.int .i64 a2))]=>(match lk i0 with
  | some (.mem _ _ _ (.flat [.cs [.clo 100 [i1,i2]]]))=>(match lk i1 with
  | some (.mem _ _ _ (.flat [.cs [.fz (.int .u8) a3]]))=>(match lk i2 with
  | some (.mem _ _ _ (.flat [.cs [.int .i64 a4]]))=>some ⟨(motion_laid_halves_2 N a1 a2 a3 a4).isSome=true,.v (.agg [.ints 64 .i64 ((motion_laid_halves_2 N a1 a2 a3 a4).getD default)]),[],[]⟩
  | _=>none)
  | _=>none)
  | _=>none)
 | _=>none
theorem ok_motion_laid_halves_2(N:Nat):FnOK Tryz.prog gt0 70 (sp_motion_laid_halves_2 N):=by
 refine fnOK_handed Tryz.func70 rfl (by kernel_rfl) tt_ok (ktCons (ok_motion_halves_2 N) (ktNil)) ?_
 intro args lk r h hp
 unfold sp_motion_laid_halves_2 at h
 split at h
 .rename_i i0 a1 a2
  split at h
  .rename_i _ _ _ i1 i2 hl0
   split at h
   .rename_i _ _ _ a3 hl1
    split at h
    .rename_i _ _ _ a4 hl2
     change (List Int)at a3
     cases h
     obtain⟨x,hT⟩:=sX hp;clear hp
     simp only[hT,Option.getD_some]
     refine handL [i0,i1,i2] 3 [(0,.mem false 75 none (.flat [.cs [.clo 100 [1,2]]])),(1,.mem false 22 none (.flat [.cs [.fz (.int .u8) a3]])),(2,.mem false 3 none (.flat [.cs [.int .i64 a4]]))] [.v (.c (.clo 101 [0])),.v (.c (.int .i64 a1)),.v (.c (.int .i64 a2))] rfl rfl rfl ⟨isSome_of hl2,isSome_of hl1,isSome_of hl0,trivial⟩ ⟨⟨rfl,zT,_,hl0,sub_ro⟩,⟨rfl,zT,_,hl1,sub_ro⟩,⟨rfl,zT,_,hl2,sub_ro⟩,trivial⟩ rfl (fun w0 M ε0 hX => ?_)
     refine rCount (fun hε => ?_)
     unfold motion_laid_halves_2 at hT
     refine zA hX ?_
     refine zA hX ?_
     refine rSeq (zA hX ?_)
     refine rBlock ?_
     replace hT:=sBind hT;obtain⟨w1,hl,hT⟩:=hT
     refine rJoinA (fun v1=>v1=w1) (fun v1=>⟨[(6,.v (.c (.ptr 3 0 0 0 0 0))),(7,.v (.c (.ptr 4 0 0 0 0 0)))],[(0,.mem false 75 none (.flat [.cs [.clo 100 [1,2]]])),(1,.mem false 22 none (.flat [.cs [.fz (.int .u8) a3]])),(2,.mem false 3 none (.flat [.cs [.int .i64 a4]])),(3,.mem true 62 none (.flat [.ints 64 .i64 (List.replicate 64 0)])),(4,.mem true 62 none (.flat [.ints 64 .i64 v1]))],5⟩) (.exit 0) (fun v1 hv => ?_) (fun hxs10 => ?_)
     .subst hv;clear hl
      refine rInHit (rThen (zA hX ?_))
      refine rRet ?_
      have hy:=sJ hT;subst hy
      exact zEnd0 hX rfl
     refine rLoopM (motion_laid_halves_2_b1 N a1 a2 a3 a4) (fun s1=>⟨[(0,.v (.c (.clo 101 [0]))),(1,.v (.c (.int .i64 a1))),(2,.v (.c (.int .i64 a2))),(6,.v (.c (.ptr 3 0 0 0 0 0))),(7,.v (.c (.ptr 4 0 0 0 0 0))),(9,.v (.c (.int .i64 s1.1)))],[(0,.mem false 75 none (.flat [.cs [.clo 100 [1,2]]])),(1,.mem false 22 none (.flat [.cs [.fz (.int .u8) a3]])),(2,.mem false 3 none (.flat [.cs [.int .i64 a4]])),(3,.mem true 62 none (.flat [.ints 64 .i64 (List.replicate 64 0)])),(4,.mem true 62 none (.flat [.ints 64 .i64 s1.2]))],5⟩) hl (To.mk' [] 3 hε rfl zL zL) (fun s1 zs1 NNs1 hz hnexts1 houts1 => ?_)
     clear hl hT
     have hT:=hz;clear hz
     refine zA hX ?_
     refine rSeq ?_
     refine zCond rfl rfl (fun hc => ?_) (fun hc => ?_)
     .replace hT:=sT hc hT
      refine rSkip (rThen (rSeq (rBlock (zA hX ?_))))
      let c1:=(motion_halves_2 N (a1+((2:Int)*(s1.1%8))) (a2+((2:Int)*(s1.1/8))) a3 a4)
      replace hT:=sIf hT;obtain⟨⟨o1,o2,o3,o4,o5,o6,o7,o8⟩,hT⟩:=hT
      refine zReg md0 hX rfl rfl rfl ?_
      refine rInNormal (rThen ?_)
      replace hT:=sIf hT;obtain⟨o1,hT⟩:=hT
      refine zReg md0 hX rfl rfl rfl ?_
      exact hnexts1 _ (sJ hT).symm _ (To.mk' [] 3 hε rfl zL zL)
     .replace hT:=sF hc hT
      refine rExit (rThenExit (rThenExit ?_))
      exact zTo [] 3 hε (hxs10 _ (houts1 _ (sJ hT).symm))
    .cases h
   .cases h
  .cases h
 .cases h
def motion_Chroma(N:Nat)(a1:Int):Option Int:=
 let c1:=(whole_Clip N a1 (-64) 64)
 if c1.isSome=true then
  if inK .i64 (-(c1.getD default))then
   if(0:Int)<=(max (c1.getD default) (-(c1.getD default)))/\inK .i64 ((2:Int)*((max (c1.getD default) (-(c1.getD default)))/4))then
    if(0:Int)<=(max (c1.getD default) (-(c1.getD default)))then
     if((decide (((max (c1.getD default) (-(c1.getD default)))%4)≠0))=true->inK .i64 (((2:Int)*((max (c1.getD default) (-(c1.getD default)))/4))+1))then
      let x1:=(bif(decide (((max (c1.getD default) (-(c1.getD default)))%4)≠0))then(((2:Int)*((max (c1.getD default) (-(c1.getD default)))/4))+1)else((2:Int)*((max (c1.getD default) (-(c1.getD default)))/4)))
      bif(decide ((c1.getD default)<0))then
       if inK .i64 (-x1)then
        some (-x1)
       else none
      else
       some x1
     else none
    else none
   else none
  else none
 else none
def sp_motion_Chroma(N:Nat):X.Spec:=fun args lk=>match args with
 | [.v (.c (.int .i64 a1))]=>some ⟨(motion_Chroma N a1).isSome=true,.v (.c (.int .i64 ((motion_Chroma N a1).getD default))),[],[]⟩
 | _=>none
theorem ok_motion_Chroma(N:Nat):FnOK Tryz.prog gt0 71 (sp_motion_Chroma N):=by
 refine fnOK_handed Tryz.func71 rfl (by kernel_rfl) tt_ok (ktCons (ok_whole_Clip N) (ktNil)) ?_
 intro args lk r h hp
 unfold sp_motion_Chroma at h
 split at h
 .rename_i a1
  cases h
  obtain⟨x,hT⟩:=sX hp;clear hp
  simp only[hT,Option.getD_some]
  refine hand0 rfl rfl fun w0 M ε0 hX=>rCount fun hε => ?_
  unfold motion_Chroma at hT
  refine zA hX ?_
  let c1:=(whole_Clip N a1 (-64) 64)
  replace hT:=sIf hT;obtain⟨o1,hT⟩:=hT
  refine zA hX ?_
  replace hT:=sIf hT;obtain⟨o1,hT⟩:=hT
  refine zA hX ?_
  replace hT:=sIf hT;obtain⟨⟨o1,o2⟩,hT⟩:=hT
  refine zA hX ?_
  refine rSeq ?_
  replace hT:=sIf hT;obtain⟨o1,hT⟩:=hT
  refine zA hX ?_
  replace hT:=sIf hT;obtain⟨q1,hT⟩:=hT
  refine rJoin ⟨[(0,.v (.c (.int .i64 (c1.getD default)))),(2,.v (.c (.int .i64 0))),(4,.v (.c (.int .i64 (bif(decide (((max (c1.getD default) (-(c1.getD default)))%4)≠0))then(((2:Int)*((max (c1.getD default) (-(c1.getD default)))/4))+1)else((2:Int)*((max (c1.getD default) (-(c1.getD default)))/4))))))],[],0⟩ ?_ (fun hj => ?_)
  .let x1:=(bif(decide (((max (c1.getD default) (-(c1.getD default)))%4)≠0))then(((2:Int)*((max (c1.getD default) (-(c1.getD default)))/4))+1)else((2:Int)*((max (c1.getD default) (-(c1.getD default)))/4)))
   refine rThen (rSeq (zA hX ?_))
   refine zCond rfl rfl (fun hc => ?_) (fun hc => ?_)
   .replace hT:=sT hc hT
    replace hT:=sIf hT;obtain⟨o1,hT⟩:=hT
    refine zA hX ?_
    refine rRet (rThenRet ?_)
    have hy:=sJ hT;subst hy
    exact zEnd0 hX rfl
   .replace hT:=sF hc hT
    refine rSkip (rThen (zA hX ?_))
    refine rRet ?_
    have hy:=sJ hT;subst hy
    exact zEnd0 hX rfl
  .clear hT
   refine zCond rfl rfl (fun hc => ?_) (fun hc => ?_)
   .have q1:=q1 hc
    refine zReg md0 hX rfl rfl rfl ?_
    exact rTo (To.mk' [] 0 hε rfl zJ zJ) hj
   .refine rSkip ?_
    exact rTo (To.mk' [] 0 hε rfl zJ zJ) hj
 .cases h
def motion_Predict_b1(N:Nat)(a1:Int) (a2:(List (List Int))) (a3:Int) (a4:(List Int)) (c1:(Option (Int×Int))) (s1:(Int×(List Int))):Option ((Int×(List Int))⊕(List Int)):=
 bif(decide (s1.1<6))then
  if inK .i64 (s1.1-4)/\inK .i64 ((s1.1-4)+1)then
   let c4:=(formats_Plane N a1 (max (0:Int) ((s1.1-4)+1)))
   if c4.isSome=true then
    let c5:=(motion_halves N (a2.getD (max (0:Int) ((s1.1-4)+1)).toNat []) (c4.getD default).1)
    if(0:Int)<=(max (0:Int) ((s1.1-4)+1))/\(max (0:Int) ((s1.1-4)+1))<3/\(max (0:Int) ((s1.1-4)+1)).toNat<3/\c5.isSome=true then
     bif(decide ((max (0:Int) ((s1.1-4)+1))=0))then
      let c6:=(motion_laid_halves_2 N (((2:Int)*(((16:Int)*(a3%(c1.getD default).1))+((s1.1%2)*8)))+(a4.getD 0 0)) (((2:Int)*(((16:Int)*(a3/(c1.getD default).1))+((s1.1/2)*8)))+(a4.getD 1 0)) (c5.getD default).1 (c5.getD default).2)
      if inK .i64 ((16:Int)*(a3%(c1.getD default).1))/\(0:Int)<=s1.1/\inK .i64 ((s1.1%2)*8)/\inK .i64 (((16:Int)*(a3%(c1.getD default).1))+((s1.1%2)*8))/\inK .i64 ((2:Int)*(((16:Int)*(a3%(c1.getD default).1))+((s1.1%2)*8)))/\inK .i64 (((2:Int)*(((16:Int)*(a3%(c1.getD default).1))+((s1.1%2)*8)))+(a4.getD 0 0))/\inK .i64 ((16:Int)*(a3/(c1.getD default).1))/\inK .i64 ((s1.1/2)*8)/\inK .i64 (((16:Int)*(a3/(c1.getD default).1))+((s1.1/2)*8))/\inK .i64 ((2:Int)*(((16:Int)*(a3/(c1.getD default).1))+((s1.1/2)*8)))/\inK .i64 (((2:Int)*(((16:Int)*(a3/(c1.getD default).1))+((s1.1/2)*8)))+(a4.getD 1 0))/\c6.isSome=true/\s1.1<6/\(64*(s1.1).toNat)+64<=384 then
       if inK .i64 (s1.1+1)then
        some (.inl ((s1.1+1),(layL s1.2 (64*(s1.1).toNat) (c6.getD default) 64)))
       else none
      else none
     else
      let c7:=(motion_Chroma N (a4.getD 0 0))
      let c8:=(motion_Chroma N (a4.getD 1 0))
      let c9:=(motion_laid_halves_2 N (((16:Int)*(a3%(c1.getD default).1))+(c7.getD default)) (((16:Int)*(a3/(c1.getD default).1))+(c8.getD default)) (c5.getD default).1 (c5.getD default).2)
      if inK .i64 ((16:Int)*(a3%(c1.getD default).1))/\c7.isSome=true/\inK .i64 (((16:Int)*(a3%(c1.getD default).1))+(c7.getD default))/\inK .i64 ((16:Int)*(a3/(c1.getD default).1))/\c8.isSome=true/\inK .i64 (((16:Int)*(a3/(c1.getD default).1))+(c8.getD default))/\c9.isSome=true/\(0:Int)<=s1.1/\s1.1<6/\(64*(s1.1).toNat)+64<=384 then
       if inK .i64 (s1.1+1)then
        some (.inl ((s1.1+1),(layL s1.2 (64*(s1.1).toNat) (c9.getD default) 64)))
       else none
      else none
    else none
   else none
  else none
 else
  some (.inr s1.2)
def motion_Predict(N:Nat)(a1:Int) (a2:(List (List Int))) (a3:Int) (a4:(List Int)):Option ((List Int)×Int):=
 let c1:=(formats_Cells N a1)
 if c1.isSome=true then
  let c2:=(planes_Right N a1 a2)
  if c2.isSome=true then
   if((!(c2.getD default))=false->((decide (a3<0))=false->inK .i64 ((c1.getD default).1*(c1.getD default).2)))then
    let x1:=(bif(!(c2.getD default))then(!(c2.getD default))else(bif(decide (a3<0))then(decide (a3<0))else(decide (((c1.getD default).1*(c1.getD default).2)<=a3))))
    bif x1 then
     some ((List.replicate 384 0),1)
    else
     let c3:=(motion_May N a1 a3 a4)
     if c3.isSome=true then
      bif(!(c3.getD default))then
       some ((List.replicate 384 0),8)
      else
       if(0:Int)<=a3/\(0:Int)<(c1.getD default).1 then
        (iter (motion_Predict_b1 N a1 a2 a3 a4 c1) N (0,(List.replicate 384 0))).bind fun v1=>
         some (v1,0)
       else none
     else none
   else none
  else none
 else none
def sp_motion_Predict(N:Nat):X.Spec:=fun args lk=>match args with
 | [.v (.agg [.cs [.int .i64 a1],.fzs 3 (.int .u8) a2]),.v (.c (.int .i64 a3)),.v (.agg [.ints 2 .i64 a4])]=>some ⟨(motion_Predict N a1 a2 a3 a4).isSome=true,.tup [.agg [.ints 384 .i64 ((motion_Predict N a1 a2 a3 a4).getD default).1],.c (.int .i64 ((motion_Predict N a1 a2 a3 a4).getD default).2)],[],[]⟩
 | _=>none
theorem ok_motion_Predict(N:Nat):FnOK Tryz.prog gt0 44 (sp_motion_Predict N):=by
 refine fnOK_handed Tryz.func44 rfl (by kernel_rfl) tt_ok (ktCons (ok_motion_Chroma N) (ktCons (ok_motion_laid_halves_2 N) (ktCons (ok_motion_halves N) (ktCons (ok_formats_Plane N) (ktCons (ok_motion_May N) (ktCons (ok_planes_Right N) (ktCons (ok_formats_Cells N) (ktNil)))))))) ?_
 intro args lk r h hp
 unfold sp_motion_Predict at h
 split at h
 .rename_i a1 a2 a3 a4
  change (List (List Int))at a2
  change (List Int)at a4
  cases h
  obtain⟨x,hT⟩:=sX hp;clear hp
  simp only[hT,Option.getD_some]
  refine hand0 rfl rfl fun w0 M ε0 hX=>rCount fun hε => ?_
  unfold motion_Predict at hT
  refine zA hX ?_
  let c1:=(formats_Cells N a1)
  replace hT:=sIf hT;obtain⟨o1,hT⟩:=hT
  refine zA hX ?_
  refine rSeq (rBlock (rSeq ?_))
  let c2:=(planes_Right N a1 a2)
  replace hT:=sIf hT;obtain⟨o1,hT⟩:=hT
  refine zA hX ?_
  replace hT:=sIf hT;obtain⟨q1,hT⟩:=hT
  refine rJoin ⟨[(1,.v (.c (.int .i64 a3))),(3,.v (.c (.ptr 0 0 0 0 0 0))),(5,.v (.c (.ptr 1 0 0 0 0 0))),(6,.v (.c (.ptr 2 0 0 0 0 0))),(7,.v (.c (.int .i64 0))),(8,.v (.c (.int .i64 (c1.getD default).1))),(24,.v (.c (.bool (bif(!(c2.getD default))then(!(c2.getD default))else(bif(decide (a3<0))then(decide (a3<0))else(decide (((c1.getD default).1*(c1.getD default).2)<=a3)))))))],[(0,.mem true 25 none (.flat [.cs [.int .i64 a1],.fzs 3 (.int .u8) a2])),(1,.mem true 30 none (.flat [.ints 2 .i64 a4])),(2,.mem true 64 none (.flat [.ints 384 .i64 (List.replicate 384 0)]))],3⟩ ?_ (fun hj => ?_)
  .let x1:=(bif(!(c2.getD default))then(!(c2.getD default))else(bif(decide (a3<0))then(decide (a3<0))else(decide (((c1.getD default).1*(c1.getD default).2)<=a3))))
   refine rThen ?_
   refine zCond rfl rfl (fun hc => ?_) (fun hc => ?_)
   .replace hT:=sT hc hT
    refine zA hX ?_
    refine rRet (rInRet (rThenRet ?_))
    have hy:=sJ hT;subst hy
    exact zEnd0 hX rfl
   .replace hT:=sF hc hT
    let c3:=(motion_May N a1 a3 a4)
    replace hT:=sIf hT;obtain⟨o1,hT⟩:=hT
    refine zA hX ?_
    refine zCond rfl rfl (fun hc => ?_) (fun hc => ?_)
    .replace hT:=sT hc hT
     refine zA hX ?_
     refine rRet (rInRet (rThenRet ?_))
     have hy:=sJ hT;subst hy
     exact zEnd0 hX rfl
    .replace hT:=sF hc hT
     refine rSkip (rInNormal (rThen (zA hX ?_)))
     replace hT:=sIf hT;obtain⟨⟨o1,o2⟩,hT⟩:=hT
     refine rSeq (zDraw md0 0 [] hX mixed rfl rfl rfl rfl rfl ?_)
     refine rThen (rSeq (zA hX ?_))
     refine rBlock ?_
     replace hT:=sBind hT;obtain⟨w1,hl,hT⟩:=hT
     refine rJoinA (fun v1=>v1=w1) (fun v1=>⟨[(6,.v (.c (.ptr 2 0 0 0 0 0))),(7,.v (.c (.int .i64 0))),(10,.v (.c (.ptr 3 0 0 0 0 0)))],[(2,.mem true 64 none (.flat [.ints 384 .i64 (List.replicate 384 0)])),(3,.mem true 64 none (.flat [.ints 384 .i64 v1]))],4⟩) (.exit 1) (fun v1 hv => ?_) (fun hxs10 => ?_)
     .subst hv;clear hl
      refine rInHit (rThen (zA hX ?_))
      refine rRet ?_
      have hy:=sJ hT;subst hy
      exact zEnd0 hX rfl
     refine rLoopM (motion_Predict_b1 N a1 a2 a3 a4 c1) (fun s1=>⟨[(3,.v (.c (.ptr 0 0 0 0 0 0))),(5,.v (.c (.ptr 1 0 0 0 0 0))),(6,.v (.c (.ptr 2 0 0 0 0 0))),(7,.v (.c (.int .i64 0))),(10,.v (.c (.ptr 3 0 0 0 0 0))),(11,.v (.c (.int .i64 (a3%(c1.getD default).1)))),(12,.v (.c (.int .i64 (a3/(c1.getD default).1)))),(50,.v (.c (.int .i64 s1.1)))],[(0,.mem true 25 none (.flat [.cs [.int .i64 a1],.fzs 3 (.int .u8) a2])),(1,.mem true 30 none (.flat [.ints 2 .i64 a4])),(2,.mem true 64 none (.flat [.ints 384 .i64 (List.replicate 384 0)])),(3,.mem true 64 none (.flat [.ints 384 .i64 s1.2]))],4⟩) hl (To.mk' [] 0 hε rfl zL zL) (fun s1 zs1 NNs1 hz hnexts1 houts1 => ?_)
     clear hl hT
     have hT:=hz;clear hz
     refine zA hX ?_
     refine rSeq ?_
     refine zCond rfl rfl (fun hc => ?_) (fun hc => ?_)
     .replace hT:=sT hc hT
      refine rSkip (rThen (rSeq (rBlock (zA hX ?_))))
      replace hT:=sIf hT;obtain⟨⟨o1,o2⟩,hT⟩:=hT
      refine zA hX ?_
      let c4:=(formats_Plane N a1 (max (0:Int) ((s1.1-4)+1)))
      replace hT:=sIf hT;obtain⟨o1,hT⟩:=hT
      refine zA hX ?_
      let c5:=(motion_halves N (a2.getD (max (0:Int) ((s1.1-4)+1)).toNat []) (c4.getD default).1)
      replace hT:=sIf hT;obtain⟨⟨o1,o2,o3,o4⟩,hT⟩:=hT
      refine zA hX ?_
      refine rSeq (zA hX ?_)
      refine zCond rfl rfl (fun hc => ?_) (fun hc => ?_)
      .replace hT:=sT hc hT
       let c6:=(motion_laid_halves_2 N (((2:Int)*(((16:Int)*(a3%(c1.getD default).1))+((s1.1%2)*8)))+(a4.getD 0 0)) (((2:Int)*(((16:Int)*(a3/(c1.getD default).1))+((s1.1/2)*8)))+(a4.getD 1 0)) (c5.getD default).1 (c5.getD default).2)
       replace hT:=sIf hT;obtain⟨⟨o1,o2,o3,o4,o5,o6,o7,o8,o9,o10,o11,o12,o13,o14⟩,hT⟩:=hT
       refine zA hX ?_
       refine rExit (rThenExit (rInHit (rThen ?_)))
       replace hT:=sIf hT;obtain⟨o1,hT⟩:=hT
       refine zReg md0 hX rfl rfl rfl ?_
       exact hnexts1 _ (sJ hT).symm _ (To.mk' [] 0 hε rfl zL zL)
      .replace hT:=sF hc hT
       refine rSkip (rThen ?_)
       let c7:=(motion_Chroma N (a4.getD 0 0))
       let c8:=(motion_Chroma N (a4.getD 1 0))
       let c9:=(motion_laid_halves_2 N (((16:Int)*(a3%(c1.getD default).1))+(c7.getD default)) (((16:Int)*(a3/(c1.getD default).1))+(c8.getD default)) (c5.getD default).1 (c5.getD default).2)
       replace hT:=sIf hT;obtain⟨⟨o1,o2,o3,o4,o5,o6,o7,o8,o9,o10⟩,hT⟩:=hT
       refine zDraw md0 1 [16] hX mixed rfl rfl rfl rfl rfl ?_
       refine rInNormal (rThen ?_)
       replace hT:=sIf hT;obtain⟨o1,hT⟩:=hT
       refine zReg md0 hX rfl rfl rfl ?_
       exact hnexts1 _ (sJ hT).symm _ (To.mk' [] 0 hε rfl zL zL)
     .replace hT:=sF hc hT
      refine rExit (rThenExit (rThenExit ?_))
      exact zTo [] 0 hε (hxs10 _ (houts1 _ (sJ hT).symm))
  .clear hT
   refine zCond rfl rfl (fun hc => ?_) (fun hc => ?_)
   .refine rSkip ?_
    exact rTo (To.mk' [] 0 hε rfl zJ zJ) hj
   .have q1:=q1 hc
    refine zA hX ?_
    refine zCond rfl rfl (fun hc => ?_) (fun hc => ?_)
    .refine rSkip ?_
     exact rTo (To.mk' [] 0 hε rfl zJ zJ) hj
    .have q1:=q1 hc
     refine zReg md0 hX rfl rfl rfl ?_
     exact rTo (To.mk' [] 0 hε rfl zJ zJ) hj
 .cases h
def stores_Drift_b2(N:Nat) (c3:(Option ((List Int)×Int))) (s1:(Int×(List Int))) (s2:(Int×(List Int))):Option ((Int×(List Int))⊕Zt4):=
 bif(decide (s2.1<64))then
  let x2:=(s2.2.set ((s1.1).toNat*64+(s2.1).toNat) ((s2.2.getD ((s1.1).toNat*64+(s2.1).toNat) 0)-((c3.getD default).1.getD ((s1.1).toNat*64+(s2.1).toNat) 0)))
  if(0:Int)<=s1.1/\s1.1<6/\(0:Int)<=s2.1/\s2.1<64/\((s1.1).toNat*64+(s2.1).toNat)<384/\inK .i64 ((s2.2.getD ((s1.1).toNat*64+(s2.1).toNat) 0)-((c3.getD default).1.getD ((s1.1).toNat*64+(s2.1).toNat) 0))then
   if inK .i64 (s2.1+1)then
    some (.inl ((s2.1+1),x2))
   else none
  else none
 else
  some (.inr (s2.1,(decide (s2.1<64)),s2.2))
def stores_Drift_b1(N:Nat) (c3:(Option ((List Int)×Int))) (s1:(Int×(List Int))):Option ((Int×(List Int))⊕(List Int)):=
 bif(decide (s1.1<6))then
  (iter (stores_Drift_b2 N c3 s1) N (0,s1.2)).bind fun v2=>
   if inK .i64 (s1.1+1)then
    some (.inl ((s1.1+1),v2.2.2))
   else none
 else
  some (.inr s1.2)
def stores_Drift(N:Nat)(a1:Int) (a2:(List (List Int))) (a3:Int) (a4:(List (List Int))) (a5:Int) (a6:(List Int)):Option ((List Int)×Int):=
 let c1:=(stores_Add N a1 a2 a3 a4)
 if c1.isSome=true then
  bif(decide ((c1.getD default).2.2≠0))then
   some ((List.replicate 384 0),(c1.getD default).2.2)
  else
   let c2:=(motion_Predict N (c1.getD default).1 (c1.getD default).2.1 a5 a6)
   if c2.isSome=true then
    bif(decide ((c2.getD default).2≠0))then
     some ((List.replicate 384 0),(c2.getD default).2)
    else
     let c3:=(motion_Predict N a1 a2 a5 a6)
     if c3.isSome=true then
      (iter (stores_Drift_b1 N c3) N (0,(c2.getD default).1)).bind fun v1=>
       some (v1,0)
     else none
   else none
 else none
def sp_stores_Drift(N:Nat):X.Spec:=fun args lk=>match args with
 | [.v (.agg [.cs [.int .i64 a1],.fzs 3 (.int .u8) a2]),.v (.agg [.cs [.int .i64 a3],.fzs 3 (.int .i64) a4]),.v (.c (.int .i64 a5)),.v (.agg [.ints 2 .i64 a6])]=>some ⟨(stores_Drift N a1 a2 a3 a4 a5 a6).isSome=true,.tup [.agg [.ints 384 .i64 ((stores_Drift N a1 a2 a3 a4 a5 a6).getD default).1],.c (.int .i64 ((stores_Drift N a1 a2 a3 a4 a5 a6).getD default).2)],[],[]⟩
 | _=>none
theorem ok_stores_Drift(N:Nat):FnOK Tryz.prog gt0 20 (sp_stores_Drift N):=by
 refine fnOK_handed Tryz.func20 rfl (by kernel_rfl) tt_ok (ktCons (ok_motion_Predict N) (ktCons (ok_stores_Add N) (ktNil))) ?_
 intro args lk r h hp
 unfold sp_stores_Drift at h
 split at h
 .rename_i a1 a2 a3 a4 a5 a6
  change (List (List Int))at a2
  change (List (List Int))at a4
  change (List Int)at a6
  cases h
  obtain⟨x,hT⟩:=sX hp;clear hp
  simp only[hT,Option.getD_some]
  refine hand0 rfl rfl fun w0 M ε0 hX=>rCount fun hε => ?_
  unfold stores_Drift at hT
  refine zA hX ?_
  let c1:=(stores_Add N a1 a2 a3 a4)
  replace hT:=sIf hT;obtain⟨o1,hT⟩:=hT
  refine zA hX ?_
  refine rSeq (zA hX ?_)
  refine zCond rfl rfl (fun hc => ?_) (fun hc => ?_)
  .replace hT:=sT hc hT
   refine zA hX ?_
   refine rRet (rThenRet ?_)
   have hy:=sJ hT;subst hy
   exact zEnd0 hX rfl
  .replace hT:=sF hc hT
   refine rSkip (rThen ?_)
   let c2:=(motion_Predict N (c1.getD default).1 (c1.getD default).2.1 a5 a6)
   replace hT:=sIf hT;obtain⟨o1,hT⟩:=hT
   refine zA hX ?_
   refine rSeq (zA hX ?_)
   refine zCond rfl rfl (fun hc => ?_) (fun hc => ?_)
   .replace hT:=sT hc hT
    refine zA hX ?_
    refine rRet (rThenRet ?_)
    have hy:=sJ hT;subst hy
    exact zEnd0 hX rfl
   .replace hT:=sF hc hT
    refine rSkip (rThen ?_)
    let c3:=(motion_Predict N a1 a2 a5 a6)
    replace hT:=sIf hT;obtain⟨o1,hT⟩:=hT
    refine zA hX ?_
    refine rSeq (zA hX ?_)
    refine rBlock ?_
    replace hT:=sBind hT;obtain⟨w1,hl,hT⟩:=hT
    refine rJoinA (fun v1=>v1=w1) (fun v1=>⟨[(8,.v (.c (.ptr 3 0 0 0 0 0))),(9,.v (.c (.int .i64 0))),(12,.v (.c (.ptr 5 0 0 0 0 0)))],[(3,.mem true 64 none (.flat [.ints 384 .i64 (List.replicate 384 0)])),(5,.mem true 64 none (.flat [.ints 384 .i64 v1]))],7⟩) (.exit 0) (fun v1 hv => ?_) (fun hxs10 => ?_)
    .subst hv;clear hl
     refine rInHit (rThen (zA hX ?_))
     refine rRet ?_
     have hy:=sJ hT;subst hy
     exact zEnd0 hX rfl
    refine rLoopM (stores_Drift_b1 N c3) (fun s1=>⟨[(8,.v (.c (.ptr 3 0 0 0 0 0))),(9,.v (.c (.int .i64 0))),(12,.v (.c (.ptr 5 0 0 0 0 0))),(13,.v (.c (.ptr 6 0 0 0 0 0))),(45,.v (.c (.int .i64 s1.1)))],[(3,.mem true 64 none (.flat [.ints 384 .i64 (List.replicate 384 0)])),(5,.mem true 64 none (.flat [.ints 384 .i64 s1.2])),(6,.mem true 64 none (.flat [.ints 384 .i64 (c3.getD default).1]))],7⟩) hl (To.mk' [] 0 hε rfl zL zL) (fun s1 zs1 NNs1 hz hnexts1 houts1 => ?_)
    clear hl hT
    have hT:=hz;clear hz
    refine zA hX ?_
    refine rSeq ?_
    refine zCond rfl rfl (fun hc => ?_) (fun hc => ?_)
    .replace hT:=sT hc hT
     refine rSkip (rThen (rSeq (rBlock (zA hX ?_))))
     refine zA hX ?_
     refine rBlock ?_
     replace hT:=sBind hT;obtain⟨w2,hl,hT⟩:=hT
     refine rJoinA (fun v2=>v2=w2) (fun v2=>⟨[(8,.v (.c (.ptr 3 0 0 0 0 0))),(9,.v (.c (.int .i64 0))),(12,.v (.c (.ptr 5 0 0 0 0 0))),(13,.v (.c (.ptr 6 0 0 0 0 0))),(15,.v (.c (.int .i64 s1.1))),(45,.v (.c (.int .i64 s1.1))),(46,.v (.c (.bool (decide (s1.1<6))))),(47,.v (.c (.int .i64 s1.1))),(48,.v (.c (.int .i64 v2.1))),(49,.v (.c (.bool v2.2.1)))],[(3,.mem true 64 none (.flat [.ints 384 .i64 (List.replicate 384 0)])),(5,.mem true 64 none (.flat [.ints 384 .i64 v2.2.2])),(6,.mem true 64 none (.flat [.ints 384 .i64 (c3.getD default).1]))],7⟩) (.exit 2) (fun v2 hv => ?_) (fun hxs20 => ?_)
     .subst hv;clear hl
      refine rInHit (rInNormal (rThen ?_))
      replace hT:=sIf hT;obtain⟨o1,hT⟩:=hT
      refine zReg md0 hX rfl rfl rfl ?_
      exact hnexts1 _ (sJ hT).symm _ (To.mk' [] 0 hε rfl zL zL)
     refine rLoopM (stores_Drift_b2 N c3 s1) (fun s2=>⟨[(8,.v (.c (.ptr 3 0 0 0 0 0))),(9,.v (.c (.int .i64 0))),(12,.v (.c (.ptr 5 0 0 0 0 0))),(13,.v (.c (.ptr 6 0 0 0 0 0))),(15,.v (.c (.int .i64 s1.1))),(45,.v (.c (.int .i64 s1.1))),(46,.v (.c (.bool (decide (s1.1<6))))),(47,.v (.c (.int .i64 s1.1))),(48,.v (.c (.int .i64 s2.1)))],[(3,.mem true 64 none (.flat [.ints 384 .i64 (List.replicate 384 0)])),(5,.mem true 64 none (.flat [.ints 384 .i64 s2.2])),(6,.mem true 64 none (.flat [.ints 384 .i64 (c3.getD default).1]))],7⟩) hl (To.mk' [] 0 hε rfl zL zL) (fun s2 zs2 NNs2 hz hnexts2 houts2 => ?_)
     clear hl hT
     have hT:=hz;clear hz
     refine zA hX ?_
     refine rSeq ?_
     refine zCond rfl rfl (fun hc => ?_) (fun hc => ?_)
     .replace hT:=sT hc hT
      refine rSkip (rThen (rSeq (rBlock (zA hX ?_))))
      let x2:=(s2.2.set ((s1.1).toNat*64+(s2.1).toNat) ((s2.2.getD ((s1.1).toNat*64+(s2.1).toNat) 0)-((c3.getD default).1.getD ((s1.1).toNat*64+(s2.1).toNat) 0)))
      replace hT:=sIf hT;obtain⟨⟨o1,o2,o3,o4,o5,o6⟩,hT⟩:=hT
      refine zDraw md0 1 [13] hX mixed rfl rfl rfl rfl rfl ?_
      refine rInNormal (rThen ?_)
      replace hT:=sIf hT;obtain⟨o1,hT⟩:=hT
      refine zReg md0 hX rfl rfl rfl ?_
      exact hnexts2 _ (sJ hT).symm _ (To.mk' [] 0 hε rfl zL zL)
     .replace hT:=sF hc hT
      refine rExit (rThenExit (rThenExit ?_))
      exact zTo [] 0 hε (hxs20 _ (houts2 _ (sJ hT).symm))
    .replace hT:=sF hc hT
     refine rExit (rThenExit (rThenExit ?_))
     exact zTo [] 0 hε (hxs10 _ (houts1 _ (sJ hT).symm))
 .cases h
def feed_plain_b1(N:Nat)(a1:(List Int)) (s1:(Int×(List Int))):Option ((Int×(List Int))⊕(List Int)):=
 bif(decide (s1.1<64))then
  if(0:Int)<=s1.1/\s1.1<64/\(s1.1).toNat<64 then
   let c3:=(whole_Clip N (a1.getD (s1.1).toNat 0) (-127) 127)
   if c3.isSome=true/\(0:Int)<=s1.1/\s1.1<64/\(s1.1).toNat<64 then
    if inK .i64 (s1.1+1)then
     some (.inl ((s1.1+1),(s1.2.set (s1.1).toNat (c3.getD default))))
    else none
   else none
  else none
 else
  some (.inr s1.2)
def feed_plain(N:Nat)(a1:(List Int))(a2:(List Int))(a3:Int)(a4:Int)(a5:Bool):Option ((List Int)×(List Int)×Int×Int×Bool):=
 (iter (feed_plain_b1 N a1) N (0,a1)).bind fun v1=>
  let c1:=(whole_Clip N a3 1 31)
  let c2:=(whole_Clip N a4 1 31)
  if c1.isSome=true/\c2.isSome=true then
   some ((bif a5 then(v1.set 0 0)else v1),(bif a5 then(List.replicate 64 0)else a2),(c1.getD default),(c2.getD default),a5)
  else none
def sp_feed_plain(N:Nat):X.Spec:=fun args lk=>match args with
 | [.v (.agg [.ints 64 .i64 a1,.ints 64 .i64 a2,.cs [.int .i64 a3,.int .i64 a4,.bool a5]])]=>some ⟨(feed_plain N a1 a2 a3 a4 a5).isSome=true,.v (.agg [.ints 64 .i64 ((feed_plain N a1 a2 a3 a4 a5).getD default).1,.ints 64 .i64 ((feed_plain N a1 a2 a3 a4 a5).getD default).2.1,.cs [.int .i64 ((feed_plain N a1 a2 a3 a4 a5).getD default).2.2.1,.int .i64 ((feed_plain N a1 a2 a3 a4 a5).getD default).2.2.2.1,.bool ((feed_plain N a1 a2 a3 a4 a5).getD default).2.2.2.2]]),[],[]⟩
 | _=>none
theorem ok_feed_plain(N:Nat):FnOK Tryz.prog gt0 72 (sp_feed_plain N):=by
 refine fnOK_handed Tryz.func72 rfl (by kernel_rfl) tt_ok (ktCons (ok_whole_Clip N) (ktNil)) ?_
 intro args lk r h hp
 unfold sp_feed_plain at h
 split at h
 .rename_i a1 a2 a3 a4 a5
  change (List Int)at a1
  change (List Int)at a2
  cases h
  obtain⟨x,hT⟩:=sX hp;clear hp
  simp only[hT,Option.getD_some]
  refine hand0 rfl rfl fun w0 M ε0 hX=>rCount fun hε => ?_
  unfold feed_plain at hT
  refine zA hX ?_
  refine rSeq (zA hX ?_)
  refine rBlock ?_
  replace hT:=sBind hT;obtain⟨w1,hl,hT⟩:=hT
  refine rJoinA (fun v1=>v1=w1) (fun v1=>⟨[(1,.v (.c (.ptr 0 0 0 0 0 0))),(2,.v (.c (.ptr 1 0 0 0 0 0)))],[(0,.mem true 96 none (.flat [.ints 64 .i64 v1,.ints 64 .i64 a2,.cs [.int .i64 a3,.int .i64 a4,.bool a5]])),(1,.mem true 96 none (.flat [.ints 64 .i64 (List.replicate 64 0),.ints 64 .i64 (List.replicate 64 0),.cs [.int .i64 0,.int .i64 0,.bool false]]))],2⟩) (.exit 0) (fun v1 hv => ?_) (fun hxs10 => ?_)
  .subst hv;clear hl
   refine rInHit (rThen (rSeq (zA hX ?_)))
   refine rJoin ⟨[(1,.v (.c (.ptr 0 0 0 0 0 0))),(2,.v (.c (.ptr 1 0 0 0 0 0)))],[(0,.mem true 96 none (.flat [.ints 64 .i64 (bif a5 then(v1.set 0 0)else v1),.ints 64 .i64 (bif a5 then(List.replicate 64 0)else a2),.cs [.int .i64 a3,.int .i64 a4,.bool a5]])),(1,.mem true 96 none (.flat [.ints 64 .i64 (List.replicate 64 0),.ints 64 .i64 (List.replicate 64 0),.cs [.int .i64 0,.int .i64 0,.bool false]]))],2⟩ ?_ (fun hj => ?_)
   .refine rThen ?_
    let c1:=(whole_Clip N a3 1 31)
    let c2:=(whole_Clip N a4 1 31)
    replace hT:=sIf hT;obtain⟨⟨o1,o2⟩,hT⟩:=hT
    refine rSeq (zDraw md0 2 [7,9] hX mixed rfl rfl rfl rfl rfl ?_)
    refine rThen (zA hX ?_)
    refine rRet ?_
    have hy:=sJ hT;subst hy
    exact zEnd0 hX rfl
   .clear hT
    refine zCond rfl rfl (fun hc => ?_) (fun hc => ?_)
    .refine zReg md0 hX rfl rfl rfl ?_
     exact rTo (To.mk' [] 0 hε rfl zJ zJ) hj
    .refine rSkip ?_
     exact rTo (To.mk' [] 0 hε rfl zJ zJ) hj
  refine rLoopM (feed_plain_b1 N a1) (fun s1=>⟨[(1,.v (.c (.ptr 0 0 0 0 0 0))),(2,.v (.c (.ptr 1 0 0 0 0 0))),(6,.v (.agg [.ints 64 .i64 a1])),(7,.v (.c (.int .i64 s1.1)))],[(0,.mem true 96 none (.flat [.ints 64 .i64 s1.2,.ints 64 .i64 a2,.cs [.int .i64 a3,.int .i64 a4,.bool a5]])),(1,.mem true 96 none (.flat [.ints 64 .i64 (List.replicate 64 0),.ints 64 .i64 (List.replicate 64 0),.cs [.int .i64 0,.int .i64 0,.bool false]]))],2⟩) hl (To.mk' [] 0 hε rfl zL zL) (fun s1 zs1 NNs1 hz hnexts1 houts1 => ?_)
  clear hl hT
  have hT:=hz;clear hz
  refine zA hX ?_
  refine rSeq ?_
  refine zCond rfl rfl (fun hc => ?_) (fun hc => ?_)
  .replace hT:=sT hc hT
   refine rSkip (rThen (rSeq (rBlock ?_)))
   replace hT:=sIf hT;obtain⟨⟨o1,o2,o3⟩,hT⟩:=hT
   refine zA hX ?_
   let c3:=(whole_Clip N (a1.getD (s1.1).toNat 0) (-127) 127)
   replace hT:=sIf hT;obtain⟨⟨o1,o2,o3,o4⟩,hT⟩:=hT
   refine zReg md0 hX rfl rfl rfl ?_
   refine rInNormal (rThen ?_)
   replace hT:=sIf hT;obtain⟨o1,hT⟩:=hT
   refine zReg md0 hX rfl rfl rfl ?_
   exact hnexts1 _ (sJ hT).symm _ (To.mk' [] 0 hε rfl zL zL)
  .replace hT:=sF hc hT
   refine rExit (rThenExit (rThenExit ?_))
   exact zTo [] 0 hε (hxs10 _ (houts1 _ (sJ hT).symm))
 .cases h
def scale_Value(N:Nat)(a1:Int)(a2:Int):Option Int:=
 let c1:=(whole_Clip N a1 (-127) 127)
 if c1.isSome=true then
  let c2:=(whole_Clip N a2 1 31)
  if c2.isSome=true then
   bif(decide ((c1.getD default)=0))then
    some 0
   else
    if inK .i64 (-(c1.getD default))/\inK .i64 ((2:Int)*(max (c1.getD default) (-(c1.getD default))))/\inK .i64 (((2:Int)*(max (c1.getD default) (-(c1.getD default))))+1)/\inK .i64 ((c2.getD default)*(((2:Int)*(max (c1.getD default) (-(c1.getD default))))+1))then
     if(0:Int)<=(c2.getD default)then
      if((decide (((c2.getD default)%2)=0))=true->inK .i64 (((c2.getD default)*(((2:Int)*(max (c1.getD default) (-(c1.getD default))))+1))-1))then
       let x1:=(bif(decide (((c2.getD default)%2)=0))then(((c2.getD default)*(((2:Int)*(max (c1.getD default) (-(c1.getD default))))+1))-1)else((c2.getD default)*(((2:Int)*(max (c1.getD default) (-(c1.getD default))))+1)))
       if((decide ((c1.getD default)<0))=true->inK .i64 (-x1))then
        let c3:=(whole_Clip N (bif(decide ((c1.getD default)<0))then(-x1)else x1) (-2048) 2047)
        if c3.isSome=true then
         some (c3.getD default)
        else none
       else none
      else none
     else none
    else none
  else none
 else none
def sp_scale_Value(N:Nat):X.Spec:=fun args lk=>match args with
 | [.v (.c (.int .i64 a1)),.v (.c (.int .i64 a2))]=>some ⟨(scale_Value N a1 a2).isSome=true,.v (.c (.int .i64 ((scale_Value N a1 a2).getD default))),[],[]⟩
 | _=>none
theorem ok_scale_Value(N:Nat):FnOK Tryz.prog gt0 102 (sp_scale_Value N):=by
 refine fnOK_handed Tryz.func102 rfl (by kernel_rfl) tt_ok (ktCons (ok_whole_Clip N) (ktNil)) ?_
 intro args lk r h hp
 unfold sp_scale_Value at h
 split at h
 .rename_i a1 a2
  cases h
  obtain⟨x,hT⟩:=sX hp;clear hp
  simp only[hT,Option.getD_some]
  refine hand0 rfl rfl fun w0 M ε0 hX=>rCount fun hε => ?_
  unfold scale_Value at hT
  refine zA hX ?_
  let c1:=(whole_Clip N a1 (-127) 127)
  replace hT:=sIf hT;obtain⟨o1,hT⟩:=hT
  refine zA hX ?_
  let c2:=(whole_Clip N a2 1 31)
  replace hT:=sIf hT;obtain⟨o1,hT⟩:=hT
  refine zA hX ?_
  refine rSeq (zA hX ?_)
  refine zCond rfl rfl (fun hc => ?_) (fun hc => ?_)
  .replace hT:=sT hc hT
   refine zA hX ?_
   refine rRet (rThenRet ?_)
   have hy:=sJ hT;subst hy
   exact zEnd0 hX rfl
  .replace hT:=sF hc hT
   refine rSkip (rThen ?_)
   replace hT:=sIf hT;obtain⟨⟨o1,o2,o3,o4⟩,hT⟩:=hT
   refine zA hX ?_
   refine rSeq ?_
   replace hT:=sIf hT;obtain⟨o1,hT⟩:=hT
   refine zA hX ?_
   replace hT:=sIf hT;obtain⟨q2,hT⟩:=hT
   refine rJoin ⟨[(0,.v (.c (.int .i64 (c1.getD default)))),(4,.v (.c (.int .i64 0))),(5,.v (.c (.int .i64 (bif(decide (((c2.getD default)%2)=0))then(((c2.getD default)*(((2:Int)*(max (c1.getD default) (-(c1.getD default))))+1))-1)else((c2.getD default)*(((2:Int)*(max (c1.getD default) (-(c1.getD default))))+1))))))],[],0⟩ ?_ (fun hj => ?_)
   .let x1:=(bif(decide (((c2.getD default)%2)=0))then(((c2.getD default)*(((2:Int)*(max (c1.getD default) (-(c1.getD default))))+1))-1)else((c2.getD default)*(((2:Int)*(max (c1.getD default) (-(c1.getD default))))+1)))
    refine rThen (rSeq (zA hX ?_))
    replace hT:=sIf hT;obtain⟨q1,hT⟩:=hT
    refine rJoin ⟨[(4,.v (.c (.int .i64 0))),(5,.v (.c (.int .i64 (bif(decide ((c1.getD default)<0))then(-x1)else x1))))],[],0⟩ ?_ (fun hj => ?_)
    .refine rThen ?_
     let c3:=(whole_Clip N (bif(decide ((c1.getD default)<0))then(-x1)else x1) (-2048) 2047)
     replace hT:=sIf hT;obtain⟨o1,hT⟩:=hT
     refine zA hX ?_
     refine rRet ?_
     have hy:=sJ hT;subst hy
     exact zEnd0 hX rfl
    .clear hT
     refine zCond rfl rfl (fun hc => ?_) (fun hc => ?_)
     .have q1:=q1 hc
      refine zReg md0 hX rfl rfl rfl ?_
      exact rTo (To.mk' [] 0 hε rfl zJ zJ) hj
     .refine rSkip ?_
      exact rTo (To.mk' [] 0 hε rfl zJ zJ) hj
   .clear hT
    refine zCond rfl rfl (fun hc => ?_) (fun hc => ?_)
    .have q2:=q2 hc
     refine zReg md0 hX rfl rfl rfl ?_
     exact rTo (To.mk' [] 0 hε rfl zJ zJ) hj
    .refine rSkip ?_
     exact rTo (To.mk' [] 0 hε rfl zJ zJ) hj
 .cases h
def scale_Dc(N:Nat)(a1:Int):Option Int:=
 let c1:=(whole_Clip N a1 1 254)
 if c1.isSome=true/\inK .i64 ((8:Int)*(c1.getD default))then
  some ((8:Int)*(c1.getD default))
 else none
def sp_scale_Dc(N:Nat):X.Spec:=fun args lk=>match args with
 | [.v (.c (.int .i64 a1))]=>some ⟨(scale_Dc N a1).isSome=true,.v (.c (.int .i64 ((scale_Dc N a1).getD default))),[],[]⟩
 | _=>none
theorem ok_scale_Dc(N:Nat):FnOK Tryz.prog gt0 103 (sp_scale_Dc N):=by
 refine fnOK_handed Tryz.func103 rfl (by kernel_rfl) tt_ok (ktCons (ok_whole_Clip N) (ktNil)) ?_
 intro args lk r h hp
 unfold sp_scale_Dc at h
 split at h
 .rename_i a1
  cases h
  obtain⟨x,hT⟩:=sX hp;clear hp
  simp only[hT,Option.getD_some]
  refine hand0 rfl rfl fun w0 M ε0 hX=>rCount fun hε => ?_
  unfold scale_Dc at hT
  refine zA hX ?_
  let c1:=(whole_Clip N a1 1 254)
  replace hT:=sIf hT;obtain⟨⟨o1,o2⟩,hT⟩:=hT
  refine zA hX ?_
  refine rRet ?_
  have hy:=sJ hT;subst hy
  exact zEnd0 hX rfl
 .cases h
def scale_Block_b1(N:Nat)(a1:(List Int))(a2:Int) (s1:(Int×(List Int))):Option ((Int×(List Int))⊕(List Int)):=
 bif(decide (s1.1<64))then
  if(0:Int)<=s1.1/\s1.1<64/\(s1.1).toNat<64 then
   let c2:=(scale_Value N (a1.getD (s1.1).toNat 0) a2)
   if c2.isSome=true/\(0:Int)<=s1.1/\s1.1<64/\(s1.1).toNat<64 then
    if inK .i64 (s1.1+1)then
     some (.inl ((s1.1+1),(s1.2.set (s1.1).toNat (c2.getD default))))
    else none
   else none
  else none
 else
  some (.inr s1.2)
def scale_Block(N:Nat)(a1:(List Int))(a2:Int)(a3:Bool)(a4:Int):Option (List Int):=
 (iter (scale_Block_b1 N a1 a2) N (0,(List.replicate 64 0))).bind fun v1=>
  let c1:=(scale_Dc N a4)
  if(a3=true->c1.isSome=true)then
   some (bif a3 then(v1.set 0 (c1.getD default))else v1)
  else none
def sp_scale_Block(N:Nat):X.Spec:=fun args lk=>match args with
 | [.v (.agg [.ints 64 .i64 a1]),.v (.c (.int .i64 a2)),.v (.c (.bool a3)),.v (.c (.int .i64 a4))]=>some ⟨(scale_Block N a1 a2 a3 a4).isSome=true,.v (.agg [.ints 64 .i64 ((scale_Block N a1 a2 a3 a4).getD default)]),[],[]⟩
 | _=>none
theorem ok_scale_Block(N:Nat):FnOK Tryz.prog gt0 73 (sp_scale_Block N):=by
 refine fnOK_handed Tryz.func73 rfl (by kernel_rfl) tt_ok (ktCons (ok_scale_Value N) (ktCons (ok_scale_Dc N) (ktNil))) ?_
 intro args lk r h hp
 unfold sp_scale_Block at h
 split at h
 .rename_i a1 a2 a3 a4
  change (List Int)at a1
  cases h
  obtain⟨x,hT⟩:=sX hp;clear hp
  simp only[hT,Option.getD_some]
  refine hand0 rfl rfl fun w0 M ε0 hX=>rCount fun hε => ?_
  unfold scale_Block at hT
  refine zA hX ?_
  refine zA hX ?_
  refine rSeq (zA hX ?_)
  refine rBlock ?_
  replace hT:=sBind hT;obtain⟨w1,hl,hT⟩:=hT
  refine rJoinA (fun v1=>v1=w1) (fun v1=>⟨[(2,.v (.c (.bool a3))),(3,.v (.c (.int .i64 a4))),(8,.v (.c (.ptr 1 0 0 0 0 0))),(9,.v (.c (.ptr 2 0 0 0 0 0)))],[(1,.mem true 62 none (.flat [.ints 64 .i64 (List.replicate 64 0)])),(2,.mem true 62 none (.flat [.ints 64 .i64 v1]))],3⟩) (.exit 0) (fun v1 hv => ?_) (fun hxs10 => ?_)
  .subst hv;clear hl
   refine rInHit (rThen (rSeq (zA hX ?_)))
   let c1:=(scale_Dc N a4)
   replace hT:=sIf hT;obtain⟨q1,hT⟩:=hT
   refine rJoin ⟨[(8,.v (.c (.ptr 1 0 0 0 0 0))),(9,.v (.c (.ptr 2 0 0 0 0 0)))],[(1,.mem true 62 none (.flat [.ints 64 .i64 (List.replicate 64 0)])),(2,.mem true 62 none (.flat [.ints 64 .i64 (bif a3 then(v1.set 0 (c1.getD default))else v1)]))],3⟩ ?_ (fun hj => ?_)
   .refine rThen (zA hX ?_)
    refine rRet ?_
    have hy:=sJ hT;subst hy
    exact zEnd0 hX rfl
   .clear hT
    refine zCond rfl rfl (fun hc => ?_) (fun hc => ?_)
    .have q1:=q1 hc
     refine zReg md0 hX rfl rfl rfl ?_
     exact rTo (To.mk' [] 0 hε rfl zJ zJ) hj
    .refine rSkip ?_
     exact rTo (To.mk' [] 0 hε rfl zJ zJ) hj
  refine rLoopM (scale_Block_b1 N a1 a2) (fun s1=>⟨[(1,.v (.c (.int .i64 a2))),(2,.v (.c (.bool a3))),(3,.v (.c (.int .i64 a4))),(8,.v (.c (.ptr 1 0 0 0 0 0))),(9,.v (.c (.ptr 2 0 0 0 0 0))),(12,.v (.agg [.ints 64 .i64 a1])),(13,.v (.c (.int .i64 s1.1)))],[(1,.mem true 62 none (.flat [.ints 64 .i64 (List.replicate 64 0)])),(2,.mem true 62 none (.flat [.ints 64 .i64 s1.2]))],3⟩) hl (To.mk' [] 0 hε rfl zL zL) (fun s1 zs1 NNs1 hz hnexts1 houts1 => ?_)
  clear hl hT
  have hT:=hz;clear hz
  refine zA hX ?_
  refine rSeq ?_
  refine zCond rfl rfl (fun hc => ?_) (fun hc => ?_)
  .replace hT:=sT hc hT
   refine rSkip (rThen (rSeq (rBlock ?_)))
   replace hT:=sIf hT;obtain⟨⟨o1,o2,o3⟩,hT⟩:=hT
   refine zA hX ?_
   let c2:=(scale_Value N (a1.getD (s1.1).toNat 0) a2)
   replace hT:=sIf hT;obtain⟨⟨o1,o2,o3,o4⟩,hT⟩:=hT
   refine zReg md0 hX rfl rfl rfl ?_
   refine rInNormal (rThen ?_)
   replace hT:=sIf hT;obtain⟨o1,hT⟩:=hT
   refine zReg md0 hX rfl rfl rfl ?_
   exact hnexts1 _ (sJ hT).symm _ (To.mk' [] 0 hε rfl zL zL)
  .replace hT:=sF hc hT
   refine rExit (rThenExit (rThenExit ?_))
   exact zTo [] 0 hε (hxs10 _ (houts1 _ (sJ hT).symm))
 .cases h
def dct_within_b1(N:Nat)(a1:(List Int)) (s1:(Int×(List Int))):Option ((Int×(List Int))⊕(List Int)):=
 bif(decide (s1.1<64))then
  if(0:Int)<=s1.1/\s1.1<64/\(s1.1).toNat<64 then
   let c1:=(whole_Clip N (a1.getD (s1.1).toNat 0) (-2048) 2047)
   if c1.isSome=true/\(0:Int)<=s1.1/\s1.1<64/\(s1.1).toNat<64 then
    if inK .i64 (s1.1+1)then
     some (.inl ((s1.1+1),(s1.2.set (s1.1).toNat (c1.getD default))))
    else none
   else none
  else none
 else
  some (.inr s1.2)
def dct_within(N:Nat)(a1:(List Int)):Option (List Int):=
 (iter (dct_within_b1 N a1) N (0,(List.replicate 64 0))).bind fun v1=>
  some v1
def sp_dct_within(N:Nat):X.Spec:=fun args lk=>match args with
 | [.v (.agg [.ints 64 .i64 a1])]=>some ⟨(dct_within N a1).isSome=true,.v (.agg [.ints 64 .i64 ((dct_within N a1).getD default)]),[],[]⟩
 | _=>none
theorem ok_dct_within(N:Nat):FnOK Tryz.prog gt0 104 (sp_dct_within N):=by
 refine fnOK_handed Tryz.func104 rfl (by kernel_rfl) tt_ok (ktCons (ok_whole_Clip N) (ktNil)) ?_
 intro args lk r h hp
 unfold sp_dct_within at h
 split at h
 .rename_i a1
  change (List Int)at a1
  cases h
  obtain⟨x,hT⟩:=sX hp;clear hp
  simp only[hT,Option.getD_some]
  refine hand0 rfl rfl fun w0 M ε0 hX=>rCount fun hε => ?_
  unfold dct_within at hT
  refine zA hX ?_
  refine zA hX ?_
  refine rSeq (zA hX ?_)
  refine rBlock ?_
  replace hT:=sBind hT;obtain⟨w1,hl,hT⟩:=hT
  refine rJoinA (fun v1=>v1=w1) (fun v1=>⟨[(2,.v (.c (.ptr 1 0 0 0 0 0))),(3,.v (.c (.ptr 2 0 0 0 0 0)))],[(1,.mem true 146 none (.flat [.ints 64 .i64 (List.replicate 64 0)])),(2,.mem true 146 none (.flat [.ints 64 .i64 v1]))],3⟩) (.exit 0) (fun v1 hv => ?_) (fun hxs10 => ?_)
  .subst hv;clear hl
   refine rInHit (rThen (zA hX ?_))
   refine rRet ?_
   have hy:=sJ hT;subst hy
   exact zEnd0 hX rfl
  refine rLoopM (dct_within_b1 N a1) (fun s1=>⟨[(2,.v (.c (.ptr 1 0 0 0 0 0))),(3,.v (.c (.ptr 2 0 0 0 0 0))),(6,.v (.agg [.ints 64 .i64 a1])),(7,.v (.c (.int .i64 s1.1)))],[(1,.mem true 146 none (.flat [.ints 64 .i64 (List.replicate 64 0)])),(2,.mem true 146 none (.flat [.ints 64 .i64 s1.2]))],3⟩) hl (To.mk' [] 0 hε rfl zL zL) (fun s1 zs1 NNs1 hz hnexts1 houts1 => ?_)
  clear hl hT
  have hT:=hz;clear hz
  refine zA hX ?_
  refine rSeq ?_
  refine zCond rfl rfl (fun hc => ?_) (fun hc => ?_)
  .replace hT:=sT hc hT
   refine rSkip (rThen (rSeq (rBlock ?_)))
   replace hT:=sIf hT;obtain⟨⟨o1,o2,o3⟩,hT⟩:=hT
   refine zA hX ?_
   let c1:=(whole_Clip N (a1.getD (s1.1).toNat 0) (-2048) 2047)
   replace hT:=sIf hT;obtain⟨⟨o1,o2,o3,o4⟩,hT⟩:=hT
   refine zReg md0 hX rfl rfl rfl ?_
   refine rInNormal (rThen ?_)
   replace hT:=sIf hT;obtain⟨o1,hT⟩:=hT
   refine zReg md0 hX rfl rfl rfl ?_
   exact hnexts1 _ (sJ hT).symm _ (To.mk' [] 0 hε rfl zL zL)
  .replace hT:=sF hc hT
   refine rExit (rThenExit (rThenExit ?_))
   exact zTo [] 0 hε (hxs10 _ (houts1 _ (sJ hT).symm))
 .cases h
def overspill_dct_square_fore_b1(N:Nat)(a1:Int)(a2:Int)(a3:(List Int))(s1:(Int×Int)):Option ((Int×Int)⊕Int):=
 bif(decide (s1.2<8))then
  let x1:=(s1.1+((weightsL.getD ((a2).toNat*8+(s1.2).toNat) 0)*(a3.getD (((8:Int)*a1)+s1.2).toNat 0)))
  if(0:Int)<=a2/\a2<8/\(0:Int)<=s1.2/\s1.2<8/\((a2).toNat*8+(s1.2).toNat)<64/\inK .i64 ((8:Int)*a1)/\inK .i64 (((8:Int)*a1)+s1.2)/\(0:Int)<=(((8:Int)*a1)+s1.2)/\(((8:Int)*a1)+s1.2)<64/\(((8:Int)*a1)+s1.2).toNat<64/\inK .i64 ((weightsL.getD ((a2).toNat*8+(s1.2).toNat) 0)*(a3.getD (((8:Int)*a1)+s1.2).toNat 0))/\inK .i64 (s1.1+((weightsL.getD ((a2).toNat*8+(s1.2).toNat) 0)*(a3.getD (((8:Int)*a1)+s1.2).toNat 0)))then
   if inK .i64 (s1.2+1)then
    some (.inl (x1,(s1.2+1)))
   else none
  else none
 else
  some (.inr s1.1)
def overspill_dct_square_fore(N:Nat)(a1:Int)(a2:Int)(a3:(List Int)):Option Int:=
 (iter (overspill_dct_square_fore_b1 N a1 a2 a3) N (0,0)).bind fun v1=>
  some v1
def sp_overspill_dct_square_fore(N:Nat):X.Spec:=fun args lk=>match args with
 | [.v (.c (.ptr i0 0 0 0 0 0)),.v (.c (.int .i64 a1)),.v (.c (.int .i64 a2))]=>(match lk i0 with
  | some (.mem _ _ _ (.flat [.ints 64 .i64 a3]))=>some ⟨(overspill_dct_square_fore N a1 a2 a3).isSome=true,.v (.c (.int .i64 ((overspill_dct_square_fore N a1 a2 a3).getD default))),[],[]⟩
  | _=>none)
 | _=>none
theorem ok_overspill_dct_square_fore(N:Nat):FnOK Tryz.prog gt0 106 (sp_overspill_dct_square_fore N):=by
 refine fnOK_handed Tryz.func106 rfl (by kernel_rfl) tt_ok (ktNil) ?_
 intro args lk r h hp
 unfold sp_overspill_dct_square_fore at h
 split at h
 .rename_i i0 a1 a2
  split at h
  .rename_i _ _ _ a3 hl0
   change (List Int)at a3
   cases h
   obtain⟨x,hT⟩:=sX hp;clear hp
   simp only[hT,Option.getD_some]
   refine handL [i0] 1 [(0,.mem false 146 none (.flat [.ints 64 .i64 a3]))] [.v (.c (.ptr 0 0 0 0 0 0)),.v (.c (.int .i64 a1)),.v (.c (.int .i64 a2))] rfl rfl rfl ⟨isSome_of hl0,trivial⟩ ⟨⟨rfl,zT,_,hl0,sub_ro⟩,trivial⟩ rfl (fun w0 M ε0 hX => ?_)
   refine rCount (fun hε => ?_)
   unfold overspill_dct_square_fore at hT
   refine zA hX ?_
   refine zA hX ?_
   refine rSeq (zA hX ?_)
   refine rBlock ?_
   replace hT:=sBind hT;obtain⟨w1,hl,hT⟩:=hT
   refine rJoinA (fun v1=>v1=w1) (fun v1=>⟨[(6,.v (.c (.int .i64 0))),(7,.v (.c (.int .i64 v1)))],[(0,.mem false 146 none (.flat [.ints 64 .i64 a3]))],1⟩) (.exit 0) (fun v1 hv => ?_) (fun hxs10 => ?_)
   .subst hv;clear hl
    refine rInHit (rThen (zA hX ?_))
    refine rRet ?_
    have hy:=sJ hT;subst hy
    exact zEnd0 hX rfl
   refine rLoopM (overspill_dct_square_fore_b1 N a1 a2 a3) (fun s1=>⟨[(0,.v (.c (.ptr 0 0 0 0 0 0))),(1,.v (.c (.int .i64 a1))),(2,.v (.c (.int .i64 a2))),(6,.v (.c (.int .i64 0))),(7,.v (.c (.int .i64 s1.1))),(9,.v (.c (.int .i64 s1.2)))],[(0,.mem false 146 none (.flat [.ints 64 .i64 a3]))],1⟩) hl (To.mk' [] 1 hε rfl zL zL) (fun s1 zs1 NNs1 hz hnexts1 houts1 => ?_)
   clear hl hT
   have hT:=hz;clear hz
   refine zA hX ?_
   refine rSeq ?_
   refine zCond rfl rfl (fun hc => ?_) (fun hc => ?_)
   .replace hT:=sT hc hT
    refine rSkip (rThen (rSeq (rBlock (zA hX ?_))))
    let x1:=(s1.1+((weightsL.getD ((a2).toNat*8+(s1.2).toNat) 0)*(a3.getD (((8:Int)*a1)+s1.2).toNat 0)))
    replace hT:=sIf hT;obtain⟨⟨o1,o2,o3,o4,o5,o6,o7,o8,o9,o10,o11,o12⟩,hT⟩:=hT
    refine zDraw md0 1 [16] hX mixed rfl rfl rfl rfl rfl ?_
    refine rInNormal (rThen ?_)
    replace hT:=sIf hT;obtain⟨o1,hT⟩:=hT
    refine zReg md0 hX rfl rfl rfl ?_
    exact hnexts1 _ (sJ hT).symm _ (To.mk' [] 1 hε rfl zL zL)
   .replace hT:=sF hc hT
    refine rExit (rThenExit (rThenExit ?_))
    exact zTo [] 1 hε (hxs10 _ (houts1 _ (sJ hT).symm))
  .cases h
 .cases h
def dct_pass_fore_b2(N:Nat)(a1:(List Int)) (s1:(Int×(List Int))) (s2:(Int×(List Int))):Option ((Int×(List Int))⊕Zt4):=
 bif(decide (s2.1<8))then
  let c1:=(overspill_dct_square_fore N s1.1 s2.1 a1)
  if inK .i64 ((8:Int)*s2.1)/\inK .i64 (((8:Int)*s2.1)+s1.1)/\c1.isSome=true/\(0:Int)<=(((8:Int)*s2.1)+s1.1)/\(((8:Int)*s2.1)+s1.1)<64/\(((8:Int)*s2.1)+s1.1).toNat<64 then
   if inK .i64 (s2.1+1)then
    some (.inl ((s2.1+1),(s2.2.set (((8:Int)*s2.1)+s1.1).toNat (c1.getD default))))
   else none
  else none
 else
  some (.inr (s2.1,(decide (s2.1<8)),s2.2))
def dct_pass_fore_b1(N:Nat)(a1:(List Int)) (s1:(Int×(List Int))):Option ((Int×(List Int))⊕(List Int)):=
 bif(decide (s1.1<8))then
  (iter (dct_pass_fore_b2 N a1 s1) N (0,s1.2)).bind fun v2=>
   if inK .i64 (s1.1+1)then
    some (.inl ((s1.1+1),v2.2.2))
   else none
 else
  some (.inr s1.2)
def dct_pass_fore(N:Nat)(a1:(List Int)):Option (List Int):=
 (iter (dct_pass_fore_b1 N a1) N (0,(List.replicate 64 0))).bind fun v1=>
  some v1
def sp_dct_pass_fore(N:Nat):X.Spec:=fun args lk=>match args with
 | [.fnv 106 [.c (.ptr i0 0 0 0 0 0)] []]=>(match lk i0 with
  | some (.mem _ _ _ (.flat [.ints 64 .i64 a1]))=>some ⟨(dct_pass_fore N a1).isSome=true,.v (.agg [.ints 64 .i64 ((dct_pass_fore N a1).getD default)]),[],[]⟩
  | _=>none)
 | _=>none
theorem ok_dct_pass_fore(N:Nat):FnOK Tryz.prog gt0 105 (sp_dct_pass_fore N):=by
 refine fnOK_handed Tryz.func105 rfl (by kernel_rfl) tt_ok (ktCons (ok_overspill_dct_square_fore N) (ktNil)) ?_
 intro args lk r h hp
 unfold sp_dct_pass_fore at h
 split at h
 .rename_i i0
  split at h
  .rename_i _ _ _ a1 hl0
   change (List Int)at a1
   cases h
   obtain⟨x,hT⟩:=sX hp;clear hp
   simp only[hT,Option.getD_some]
   refine handL [i0] 1 [(0,.mem false 146 none (.flat [.ints 64 .i64 a1]))] [.fnv 106 [.c (.ptr 0 0 0 0 0 0)] []] rfl rfl rfl ⟨isSome_of hl0,trivial⟩ ⟨⟨rfl,zT,_,hl0,sub_ro⟩,trivial⟩ rfl (fun w0 M ε0 hX => ?_)
   refine rCount (fun hε => ?_)
   unfold dct_pass_fore at hT
   refine zA hX ?_
   refine zA hX ?_
   refine rSeq (zA hX ?_)
   refine rBlock ?_
   replace hT:=sBind hT;obtain⟨w1,hl,hT⟩:=hT
   refine rJoinA (fun v1=>v1=w1) (fun v1=>⟨[(2,.v (.c (.ptr 1 0 0 0 0 0))),(3,.v (.c (.ptr 2 0 0 0 0 0)))],[(0,.mem false 146 none (.flat [.ints 64 .i64 a1])),(1,.mem true 146 none (.flat [.ints 64 .i64 (List.replicate 64 0)])),(2,.mem true 146 none (.flat [.ints 64 .i64 v1]))],3⟩) (.exit 0) (fun v1 hv => ?_) (fun hxs10 => ?_)
   .subst hv;clear hl
    refine rInHit (rThen (zA hX ?_))
    refine rRet ?_
    have hy:=sJ hT;subst hy
    exact zEnd0 hX rfl
   refine rLoopM (dct_pass_fore_b1 N a1) (fun s1=>⟨[(0,.fnv 106 [.c (.ptr 0 0 0 0 0 0)] []),(2,.v (.c (.ptr 1 0 0 0 0 0))),(3,.v (.c (.ptr 2 0 0 0 0 0))),(6,.v (.c (.int .i64 s1.1)))],[(0,.mem false 146 none (.flat [.ints 64 .i64 a1])),(1,.mem true 146 none (.flat [.ints 64 .i64 (List.replicate 64 0)])),(2,.mem true 146 none (.flat [.ints 64 .i64 s1.2]))],3⟩) hl (To.mk' [] 1 hε rfl zL zL) (fun s1 zs1 NNs1 hz hnexts1 houts1 => ?_)
   clear hl hT
   have hT:=hz;clear hz
   refine zA hX ?_
   refine rSeq ?_
   refine zCond rfl rfl (fun hc => ?_) (fun hc => ?_)
   .replace hT:=sT hc hT
    refine rSkip (rThen (rSeq (rBlock (zA hX ?_))))
    refine zA hX ?_
    refine rBlock ?_
    replace hT:=sBind hT;obtain⟨w2,hl,hT⟩:=hT
    refine rJoinA (fun v2=>v2=w2) (fun v2=>⟨[(0,.fnv 106 [.c (.ptr 0 0 0 0 0 0)] []),(2,.v (.c (.ptr 1 0 0 0 0 0))),(3,.v (.c (.ptr 2 0 0 0 0 0))),(4,.v (.c (.int .i64 s1.1))),(6,.v (.c (.int .i64 s1.1))),(7,.v (.c (.bool (decide (s1.1<8))))),(8,.v (.c (.int .i64 s1.1))),(9,.v (.c (.int .i64 v2.1))),(10,.v (.c (.bool v2.2.1)))],[(0,.mem false 146 none (.flat [.ints 64 .i64 a1])),(1,.mem true 146 none (.flat [.ints 64 .i64 (List.replicate 64 0)])),(2,.mem true 146 none (.flat [.ints 64 .i64 v2.2.2]))],3⟩) (.exit 2) (fun v2 hv => ?_) (fun hxs20 => ?_)
    .subst hv;clear hl
     refine rInHit (rInNormal (rThen ?_))
     replace hT:=sIf hT;obtain⟨o1,hT⟩:=hT
     refine zReg md0 hX rfl rfl rfl ?_
     exact hnexts1 _ (sJ hT).symm _ (To.mk' [] 1 hε rfl zL zL)
    refine rLoopM (dct_pass_fore_b2 N a1 s1) (fun s2=>⟨[(0,.fnv 106 [.c (.ptr 0 0 0 0 0 0)] []),(2,.v (.c (.ptr 1 0 0 0 0 0))),(3,.v (.c (.ptr 2 0 0 0 0 0))),(4,.v (.c (.int .i64 s1.1))),(6,.v (.c (.int .i64 s1.1))),(7,.v (.c (.bool (decide (s1.1<8))))),(8,.v (.c (.int .i64 s1.1))),(9,.v (.c (.int .i64 s2.1)))],[(0,.mem false 146 none (.flat [.ints 64 .i64 a1])),(1,.mem true 146 none (.flat [.ints 64 .i64 (List.replicate 64 0)])),(2,.mem true 146 none (.flat [.ints 64 .i64 s2.2]))],3⟩) hl (To.mk' [] 1 hε rfl zL zL) (fun s2 zs2 NNs2 hz hnexts2 houts2 => ?_)
    clear hl hT
    have hT:=hz;clear hz
    refine zA hX ?_
    refine rSeq ?_
    refine zCond rfl rfl (fun hc => ?_) (fun hc => ?_)
    .replace hT:=sT hc hT
     refine rSkip (rThen (rSeq (rBlock (zA hX ?_))))
     let c1:=(overspill_dct_square_fore N s1.1 s2.1 a1)
     replace hT:=sIf hT;obtain⟨⟨o1,o2,o3,o4,o5,o6⟩,hT⟩:=hT
     refine zReg md0 hX rfl rfl rfl ?_
     refine rInNormal (rThen ?_)
     replace hT:=sIf hT;obtain⟨o1,hT⟩:=hT
     refine zReg md0 hX rfl rfl rfl ?_
     exact hnexts2 _ (sJ hT).symm _ (To.mk' [] 1 hε rfl zL zL)
    .replace hT:=sF hc hT
     refine rExit (rThenExit (rThenExit ?_))
     exact zTo [] 1 hε (hxs20 _ (houts2 _ (sJ hT).symm))
   .replace hT:=sF hc hT
    refine rExit (rThenExit (rThenExit ?_))
    exact zTo [] 1 hε (hxs10 _ (houts1 _ (sJ hT).symm))
  .cases h
 .cases h
def whole_Round(N:Nat)(a1:Int)(a2:Int):Option Int:=
 let c1:=(whole_Clip N a1 (-1099511627776) 1099511627776)
 let c2:=(whole_Clip N a2 0 32)
 if c1.isSome=true/\c2.isSome=true then
  bif(decide ((c2.getD default)=0))then
   some (c1.getD default)
  else
   let x1:=(((c1.getD default)+((1:Int)*2 ^ (Int.toNat ((c2.getD default)-1))))/2 ^ (Int.toNat (c2.getD default)))
   if inK .i64 ((c2.getD default)-1)/\inK .u64 ((c2.getD default)-1)/\(0:Int)<=((c2.getD default)-1)/\(((c2.getD default)-1)).toNat<=64/\inK .i64 ((1:Int)*2 ^ (Int.toNat ((c2.getD default)-1)))/\inK .i64 ((c1.getD default)+((1:Int)*2 ^ (Int.toNat ((c2.getD default)-1))))/\inK .u64 (c2.getD default)/\(0:Int)<=(c2.getD default)/\((c2.getD default)).toNat<=64 then
    some x1
   else none
 else none
def sp_whole_Round(N:Nat):X.Spec:=fun args lk=>match args with
 | [.v (.c (.int .i64 a1)),.v (.c (.int .i64 a2))]=>some ⟨(whole_Round N a1 a2).isSome=true,.v (.c (.int .i64 ((whole_Round N a1 a2).getD default))),[],[]⟩
 | _=>none
theorem ok_whole_Round(N:Nat):FnOK Tryz.prog gt0 120 (sp_whole_Round N):=by
 refine fnOK_handed Tryz.func120 rfl (by kernel_rfl) tt_ok (ktCons (ok_whole_Clip N) (ktNil)) ?_
 intro args lk r h hp
 unfold sp_whole_Round at h
 split at h
 .rename_i a1 a2
  cases h
  obtain⟨x,hT⟩:=sX hp;clear hp
  simp only[hT,Option.getD_some]
  refine hand0 rfl rfl fun w0 M ε0 hX=>rCount fun hε => ?_
  unfold whole_Round at hT
  refine zA hX ?_
  let c1:=(whole_Clip N a1 (-1099511627776) 1099511627776)
  let c2:=(whole_Clip N a2 0 32)
  replace hT:=sIf hT;obtain⟨⟨o1,o2⟩,hT⟩:=hT
  refine zA hX ?_
  refine rSeq (zA hX ?_)
  refine zCond rfl rfl (fun hc => ?_) (fun hc => ?_)
  .replace hT:=sT hc hT
   refine zA hX ?_
   refine rRet (rThenRet ?_)
   have hy:=sJ hT;subst hy
   exact zEnd0 hX rfl
  .replace hT:=sF hc hT
   refine rSkip (rThen ?_)
   let x1:=(((c1.getD default)+((1:Int)*2 ^ (Int.toNat ((c2.getD default)-1))))/2 ^ (Int.toNat (c2.getD default)))
   replace hT:=sIf hT;obtain⟨⟨o1,o2,o3,o4,o5,o6,o7,o8,o9⟩,hT⟩:=hT
   refine zA hX ?_
   refine rRet ?_
   have hy:=sJ hT;subst hy
   exact zEnd0 hX rfl
 .cases h
def dct_rounded_b1(N:Nat)(a1:(List Int))(a2:Int)(a3:Int) (s1:(Int×(List Int))):Option ((Int×(List Int))⊕(List Int)):=
 bif(decide (s1.1<64))then
  if(0:Int)<=s1.1/\s1.1<64/\(s1.1).toNat<64 then
   let c1:=(whole_Round N (a1.getD (s1.1).toNat 0) 15)
   let c2:=(whole_Clip N (c1.getD default) a2 a3)
   if c1.isSome=true/\c2.isSome=true/\(0:Int)<=s1.1/\s1.1<64/\(s1.1).toNat<64 then
    if inK .i64 (s1.1+1)then
     some (.inl ((s1.1+1),(s1.2.set (s1.1).toNat (c2.getD default))))
    else none
   else none
  else none
 else
  some (.inr s1.2)
def dct_rounded(N:Nat)(a1:(List Int))(a2:Int)(a3:Int):Option (List Int):=
 (iter (dct_rounded_b1 N a1 a2 a3) N (0,(List.replicate 64 0))).bind fun v1=>
  some v1
def sp_dct_rounded(N:Nat):X.Spec:=fun args lk=>match args with
 | [.v (.agg [.ints 64 .i64 a1]),.v (.c (.int .i64 a2)),.v (.c (.int .i64 a3))]=>some ⟨(dct_rounded N a1 a2 a3).isSome=true,.v (.agg [.ints 64 .i64 ((dct_rounded N a1 a2 a3).getD default)]),[],[]⟩
 | _=>none
theorem ok_dct_rounded(N:Nat):FnOK Tryz.prog gt0 107 (sp_dct_rounded N):=by
 refine fnOK_handed Tryz.func107 rfl (by kernel_rfl) tt_ok (ktCons (ok_whole_Clip N) (ktCons (ok_whole_Round N) (ktNil))) ?_
 intro args lk r h hp
 unfold sp_dct_rounded at h
 split at h
 .rename_i a1 a2 a3
  change (List Int)at a1
  cases h
  obtain⟨x,hT⟩:=sX hp;clear hp
  simp only[hT,Option.getD_some]
  refine hand0 rfl rfl fun w0 M ε0 hX=>rCount fun hε => ?_
  unfold dct_rounded at hT
  refine zA hX ?_
  refine zA hX ?_
  refine rSeq (zA hX ?_)
  refine rBlock ?_
  replace hT:=sBind hT;obtain⟨w1,hl,hT⟩:=hT
  refine rJoinA (fun v1=>v1=w1) (fun v1=>⟨[(6,.v (.c (.ptr 1 0 0 0 0 0))),(7,.v (.c (.ptr 2 0 0 0 0 0)))],[(1,.mem true 62 none (.flat [.ints 64 .i64 (List.replicate 64 0)])),(2,.mem true 62 none (.flat [.ints 64 .i64 v1]))],3⟩) (.exit 0) (fun v1 hv => ?_) (fun hxs10 => ?_)
  .subst hv;clear hl
   refine rInHit (rThen (zA hX ?_))
   refine rRet ?_
   have hy:=sJ hT;subst hy
   exact zEnd0 hX rfl
  refine rLoopM (dct_rounded_b1 N a1 a2 a3) (fun s1=>⟨[(1,.v (.c (.int .i64 a2))),(2,.v (.c (.int .i64 a3))),(6,.v (.c (.ptr 1 0 0 0 0 0))),(7,.v (.c (.ptr 2 0 0 0 0 0))),(10,.v (.agg [.ints 64 .i64 a1])),(11,.v (.c (.int .i64 s1.1)))],[(1,.mem true 62 none (.flat [.ints 64 .i64 (List.replicate 64 0)])),(2,.mem true 62 none (.flat [.ints 64 .i64 s1.2]))],3⟩) hl (To.mk' [] 0 hε rfl zL zL) (fun s1 zs1 NNs1 hz hnexts1 houts1 => ?_)
  clear hl hT
  have hT:=hz;clear hz
  refine zA hX ?_
  refine rSeq ?_
  refine zCond rfl rfl (fun hc => ?_) (fun hc => ?_)
  .replace hT:=sT hc hT
   refine rSkip (rThen (rSeq (rBlock ?_)))
   replace hT:=sIf hT;obtain⟨⟨o1,o2,o3⟩,hT⟩:=hT
   refine zA hX ?_
   let c1:=(whole_Round N (a1.getD (s1.1).toNat 0) 15)
   let c2:=(whole_Clip N (c1.getD default) a2 a3)
   replace hT:=sIf hT;obtain⟨⟨o1,o2,o3,o4,o5⟩,hT⟩:=hT
   refine zReg md0 hX rfl rfl rfl ?_
   refine rInNormal (rThen ?_)
   replace hT:=sIf hT;obtain⟨o1,hT⟩:=hT
   refine zReg md0 hX rfl rfl rfl ?_
   exact hnexts1 _ (sJ hT).symm _ (To.mk' [] 0 hε rfl zL zL)
  .replace hT:=sF hc hT
   refine rExit (rThenExit (rThenExit ?_))
   exact zTo [] 0 hε (hxs10 _ (houts1 _ (sJ hT).symm))
 .cases h
def dct_Forward(N:Nat)(a1:(List Int)):Option (List Int):=
 let c1:=(dct_within N a1)
 if c1.isSome=true then
  let c2:=(dct_pass_fore N (c1.getD default))
  if c2.isSome=true then
   let c3:=(dct_pass_fore N (c2.getD default))
   let c4:=(dct_rounded N (c3.getD default) (-2048) 2047)
   if c3.isSome=true/\c4.isSome=true then
    some (c4.getD default)
   else none
  else none
 else none
def sp_dct_Forward(N:Nat):X.Spec:=fun args lk=>match args with
 | [.v (.agg [.ints 64 .i64 a1])]=>some ⟨(dct_Forward N a1).isSome=true,.v (.agg [.ints 64 .i64 ((dct_Forward N a1).getD default)]),[],[]⟩
 | _=>none
theorem ok_dct_Forward(N:Nat):FnOK Tryz.prog gt0 74 (sp_dct_Forward N):=by
 refine fnOK_handed Tryz.func74 rfl (by kernel_rfl) tt_ok (ktCons (ok_dct_rounded N) (ktCons (ok_dct_pass_fore N) (ktCons (ok_dct_within N) (ktNil)))) ?_
 intro args lk r h hp
 unfold sp_dct_Forward at h
 split at h
 .rename_i a1
  change (List Int)at a1
  cases h
  obtain⟨x,hT⟩:=sX hp;clear hp
  simp only[hT,Option.getD_some]
  refine hand0 rfl rfl fun w0 M ε0 hX=>rCount fun hε => ?_
  unfold dct_Forward at hT
  refine zA hX ?_
  let c1:=(dct_within N a1)
  replace hT:=sIf hT;obtain⟨o1,hT⟩:=hT
  refine zA hX ?_
  let c2:=(dct_pass_fore N (c1.getD default))
  replace hT:=sIf hT;obtain⟨o1,hT⟩:=hT
  refine zA hX ?_
  let c3:=(dct_pass_fore N (c2.getD default))
  let c4:=(dct_rounded N (c3.getD default) (-2048) 2047)
  replace hT:=sIf hT;obtain⟨⟨o1,o2⟩,hT⟩:=hT
  refine zA hX ?_
  refine rRet ?_
  have hy:=sJ hT;subst hy
  exact zEnd0 hX rfl
 .cases h
def coarse_level(N:Nat)(a1:Int)(a2:Int)(a3:Int):Option Int:=
 let c1:=(whole_Clip N ((max a2 (0:Int))/((2:Int)*a3)) 0 127)
 if inK .i64 ((2:Int)*a3)/\(0:Int)<=(max a2 (0:Int))/\(0:Int)<((2:Int)*a3)/\c1.isSome=true then
  bif(decide (a1<0))then
   if inK .i64 (-(c1.getD default))then
    some (-(c1.getD default))
   else none
  else
   some (c1.getD default)
 else none
def sp_coarse_level(N:Nat):X.Spec:=fun args lk=>match args with
 | [.v (.c (.int .i64 a1)),.v (.c (.int .i64 a2)),.v (.c (.int .i64 a3))]=>some ⟨(coarse_level N a1 a2 a3).isSome=true,.v (.c (.int .i64 ((coarse_level N a1 a2 a3).getD default))),[],[]⟩
 | _=>none
theorem ok_coarse_level(N:Nat):FnOK Tryz.prog gt0 121 (sp_coarse_level N):=by
 refine fnOK_handed Tryz.func121 rfl (by kernel_rfl) tt_ok (ktCons (ok_whole_Clip N) (ktNil)) ?_
 intro args lk r h hp
 unfold sp_coarse_level at h
 split at h
 .rename_i a1 a2 a3
  cases h
  obtain⟨x,hT⟩:=sX hp;clear hp
  simp only[hT,Option.getD_some]
  refine hand0 rfl rfl fun w0 M ε0 hX=>rCount fun hε => ?_
  unfold coarse_level at hT
  refine zA hX ?_
  let c1:=(whole_Clip N ((max a2 (0:Int))/((2:Int)*a3)) 0 127)
  replace hT:=sIf hT;obtain⟨⟨o1,o2,o3,o4⟩,hT⟩:=hT
  refine zA hX ?_
  refine rSeq (zA hX ?_)
  refine zCond rfl rfl (fun hc => ?_) (fun hc => ?_)
  .replace hT:=sT hc hT
   replace hT:=sIf hT;obtain⟨o1,hT⟩:=hT
   refine zA hX ?_
   refine rRet (rThenRet ?_)
   have hy:=sJ hT;subst hy
   exact zEnd0 hX rfl
  .replace hT:=sF hc hT
   refine rSkip (rThen (zA hX ?_))
   refine rRet ?_
   have hy:=sJ hT;subst hy
   exact zEnd0 hX rfl
 .cases h
def coarse_Intra(N:Nat)(a1:Int)(a2:Int):Option Int:=
 let c1:=(whole_Clip N a1 (-2048) 2047)
 let c2:=(whole_Clip N a2 1 31)
 if c1.isSome=true/\c2.isSome=true then
  let c3:=(coarse_level N (c1.getD default) (max (c1.getD default) (-(c1.getD default))) (c2.getD default))
  if inK .i64 (-(c1.getD default))/\c3.isSome=true then
   some (c3.getD default)
  else none
 else none
def sp_coarse_Intra(N:Nat):X.Spec:=fun args lk=>match args with
 | [.v (.c (.int .i64 a1)),.v (.c (.int .i64 a2))]=>some ⟨(coarse_Intra N a1 a2).isSome=true,.v (.c (.int .i64 ((coarse_Intra N a1 a2).getD default))),[],[]⟩
 | _=>none
theorem ok_coarse_Intra(N:Nat):FnOK Tryz.prog gt0 109 (sp_coarse_Intra N):=by
 refine fnOK_handed Tryz.func109 rfl (by kernel_rfl) tt_ok (ktCons (ok_coarse_level N) (ktCons (ok_whole_Clip N) (ktNil))) ?_
 intro args lk r h hp
 unfold sp_coarse_Intra at h
 split at h
 .rename_i a1 a2
  cases h
  obtain⟨x,hT⟩:=sX hp;clear hp
  simp only[hT,Option.getD_some]
  refine hand0 rfl rfl fun w0 M ε0 hX=>rCount fun hε => ?_
  unfold coarse_Intra at hT
  refine zA hX ?_
  let c1:=(whole_Clip N a1 (-2048) 2047)
  let c2:=(whole_Clip N a2 1 31)
  replace hT:=sIf hT;obtain⟨⟨o1,o2⟩,hT⟩:=hT
  refine zA hX ?_
  let c3:=(coarse_level N (c1.getD default) (max (c1.getD default) (-(c1.getD default))) (c2.getD default))
  replace hT:=sIf hT;obtain⟨⟨o1,o2⟩,hT⟩:=hT
  refine zA hX ?_
  refine rRet ?_
  have hy:=sJ hT;subst hy
  exact zEnd0 hX rfl
 .cases h
def coarse_Inter(N:Nat)(a1:Int)(a2:Int):Option Int:=
 let c1:=(whole_Clip N a1 (-2048) 2047)
 let c2:=(whole_Clip N a2 1 31)
 if c1.isSome=true/\c2.isSome=true then
  let c3:=(coarse_level N (c1.getD default) ((max (c1.getD default) (-(c1.getD default)))-((c2.getD default)/2)) (c2.getD default))
  if inK .i64 (-(c1.getD default))/\(0:Int)<=(c2.getD default)/\inK .i64 ((max (c1.getD default) (-(c1.getD default)))-((c2.getD default)/2))/\c3.isSome=true then
   some (c3.getD default)
  else none
 else none
def sp_coarse_Inter(N:Nat):X.Spec:=fun args lk=>match args with
 | [.v (.c (.int .i64 a1)),.v (.c (.int .i64 a2))]=>some ⟨(coarse_Inter N a1 a2).isSome=true,.v (.c (.int .i64 ((coarse_Inter N a1 a2).getD default))),[],[]⟩
 | _=>none
theorem ok_coarse_Inter(N:Nat):FnOK Tryz.prog gt0 108 (sp_coarse_Inter N):=by
 refine fnOK_handed Tryz.func108 rfl (by kernel_rfl) tt_ok (ktCons (ok_coarse_level N) (ktCons (ok_whole_Clip N) (ktNil))) ?_
 intro args lk r h hp
 unfold sp_coarse_Inter at h
 split at h
 .rename_i a1 a2
  cases h
  obtain⟨x,hT⟩:=sX hp;clear hp
  simp only[hT,Option.getD_some]
  refine hand0 rfl rfl fun w0 M ε0 hX=>rCount fun hε => ?_
  unfold coarse_Inter at hT
  refine zA hX ?_
  let c1:=(whole_Clip N a1 (-2048) 2047)
  let c2:=(whole_Clip N a2 1 31)
  replace hT:=sIf hT;obtain⟨⟨o1,o2⟩,hT⟩:=hT
  refine zA hX ?_
  let c3:=(coarse_level N (c1.getD default) ((max (c1.getD default) (-(c1.getD default)))-((c2.getD default)/2)) (c2.getD default))
  replace hT:=sIf hT;obtain⟨⟨o1,o2,o3,o4⟩,hT⟩:=hT
  refine zA hX ?_
  refine rRet ?_
  have hy:=sJ hT;subst hy
  exact zEnd0 hX rfl
 .cases h
def coarse_Block_b1(N:Nat)(a1:(List Int))(a2:Int) (s1:(Int×(List Int))):Option ((Int×(List Int))⊕(List Int)):=
 bif(decide (s1.1<64))then
  if(0:Int)<=s1.1/\s1.1<64/\(s1.1).toNat<64 then
   let c1:=(coarse_Intra N (a1.getD (s1.1).toNat 0) a2)
   if c1.isSome=true/\(0:Int)<=s1.1/\s1.1<64/\(s1.1).toNat<64 then
    if inK .i64 (s1.1+1)then
     some (.inl ((s1.1+1),(s1.2.set (s1.1).toNat (c1.getD default))))
    else none
   else none
  else none
 else
  some (.inr s1.2)
def coarse_Block_b2(N:Nat)(a1:(List Int))(a2:Int) (s2:(Int×(List Int))):Option ((Int×(List Int))⊕(List Int)):=
 bif(decide (s2.1<64))then
  if(0:Int)<=s2.1/\s2.1<64/\(s2.1).toNat<64 then
   let c2:=(coarse_Inter N (a1.getD (s2.1).toNat 0) a2)
   if c2.isSome=true/\(0:Int)<=s2.1/\s2.1<64/\(s2.1).toNat<64 then
    if inK .i64 (s2.1+1)then
     some (.inl ((s2.1+1),(s2.2.set (s2.1).toNat (c2.getD default))))
    else none
   else none
  else none
 else
  some (.inr s2.2)
def coarse_Block(N:Nat)(a1:(List Int))(a2:Int)(a3:Bool):Option (List Int):=
 bif a3 then
  (iter (coarse_Block_b1 N a1 a2) N (0,(List.replicate 64 0))).bind fun v1=>
   some (v1.set 0 0)
 else
  (iter (coarse_Block_b2 N a1 a2) N (0,(List.replicate 64 0))).bind fun v2=>
   some v2
def sp_coarse_Block(N:Nat):X.Spec:=fun args lk=>match args with
 | [.v (.agg [.ints 64 .i64 a1]),.v (.c (.int .i64 a2)),.v (.c (.bool a3))]=>some ⟨(coarse_Block N a1 a2 a3).isSome=true,.v (.agg [.ints 64 .i64 ((coarse_Block N a1 a2 a3).getD default)]),[],[]⟩
 | _=>none
theorem ok_coarse_Block(N:Nat):FnOK Tryz.prog gt0 75 (sp_coarse_Block N):=by
 refine fnOK_handed Tryz.func75 rfl (by kernel_rfl) tt_ok (ktCons (ok_coarse_Inter N) (ktCons (ok_coarse_Intra N) (ktNil))) ?_
 intro args lk r h hp
 unfold sp_coarse_Block at h
 split at h
 .rename_i a1 a2 a3
  change (List Int)at a1
  cases h
  obtain⟨x,hT⟩:=sX hp;clear hp
  simp only[hT,Option.getD_some]
  refine hand0 rfl rfl fun w0 M ε0 hX=>rCount fun hε => ?_
  unfold coarse_Block at hT
  refine zA hX ?_
  refine zA hX ?_
  refine rSeq (zA hX ?_)
  refine zCond rfl rfl (fun hc => ?_) (fun hc => ?_)
  .replace hT:=sT hc hT
   refine zReg md0 hX rfl rfl rfl ?_
   refine rThen (zA hX ?_)
   refine rSeq (zA hX ?_)
   refine rBlock ?_
   replace hT:=sBind hT;obtain⟨w1,hl,hT⟩:=hT
   refine rJoinA (fun v1=>v1=w1) (fun v1=>⟨[(2,.v (.c (.bool a3))),(6,.v (.c (.ptr 1 0 0 0 0 0))),(8,.v (.c (.ptr 2 0 0 0 0 0)))],[(1,.mem true 62 none (.flat [.ints 64 .i64 (List.replicate 64 0)])),(2,.mem true 62 none (.flat [.ints 64 .i64 v1]))],3⟩) (.exit 0) (fun v1 hv => ?_) (fun hxs10 => ?_)
   .subst hv;clear hl
    refine rInHit (rThen (rSeq (zA hX ?_)))
    refine rCondT rfl rfl zP (by assumption) ?_
    refine zReg md0 hX rfl rfl rfl ?_
    refine rThen (zA hX ?_)
    refine rRet ?_
    have hy:=sJ hT;subst hy
    exact zEnd0 hX rfl
   refine rLoopM (coarse_Block_b1 N a1 a2) (fun s1=>⟨[(1,.v (.c (.int .i64 a2))),(2,.v (.c (.bool a3))),(6,.v (.c (.ptr 1 0 0 0 0 0))),(7,.v (.c (.clo 109 []))),(8,.v (.c (.ptr 2 0 0 0 0 0))),(12,.v (.agg [.ints 64 .i64 a1])),(13,.v (.c (.int .i64 s1.1)))],[(1,.mem true 62 none (.flat [.ints 64 .i64 (List.replicate 64 0)])),(2,.mem true 62 none (.flat [.ints 64 .i64 s1.2]))],3⟩) hl (To.mk' [] 0 hε rfl zL zL) (fun s1 zs1 NNs1 hz hnexts1 houts1 => ?_)
   clear hl hT
   have hT:=hz;clear hz
   refine zA hX ?_
   refine rSeq ?_
   refine zCond rfl rfl (fun hc => ?_) (fun hc => ?_)
   .replace hT:=sT hc hT
    refine rSkip (rThen (rSeq (rBlock ?_)))
    replace hT:=sIf hT;obtain⟨⟨o1,o2,o3⟩,hT⟩:=hT
    refine zA hX ?_
    let c1:=(coarse_Intra N (a1.getD (s1.1).toNat 0) a2)
    replace hT:=sIf hT;obtain⟨⟨o1,o2,o3,o4⟩,hT⟩:=hT
    refine zReg md0 hX rfl rfl rfl ?_
    refine rInNormal (rThen ?_)
    replace hT:=sIf hT;obtain⟨o1,hT⟩:=hT
    refine zReg md0 hX rfl rfl rfl ?_
    exact hnexts1 _ (sJ hT).symm _ (To.mk' [] 0 hε rfl zL zL)
   .replace hT:=sF hc hT
    refine rExit (rThenExit (rThenExit ?_))
    exact zTo [] 0 hε (hxs10 _ (houts1 _ (sJ hT).symm))
  .replace hT:=sF hc hT
   refine rSkip (rThen (zA hX ?_))
   refine rSeq (zA hX ?_)
   refine rBlock ?_
   replace hT:=sBind hT;obtain⟨w2,hl,hT⟩:=hT
   refine rJoinA (fun v2=>v2=w2) (fun v2=>⟨[(2,.v (.c (.bool a3))),(6,.v (.c (.ptr 1 0 0 0 0 0))),(8,.v (.c (.ptr 2 0 0 0 0 0)))],[(1,.mem true 62 none (.flat [.ints 64 .i64 (List.replicate 64 0)])),(2,.mem true 62 none (.flat [.ints 64 .i64 v2]))],3⟩) (.exit 0) (fun v2 hv => ?_) (fun hxs20 => ?_)
   .subst hv;clear hl
    refine rInHit (rThen (rSeq (zA hX ?_)))
    refine rCondF rfl rfl zP (by assumption) ?_
    refine rSkip (rThen (zA hX ?_))
    refine rRet ?_
    have hy:=sJ hT;subst hy
    exact zEnd0 hX rfl
   refine rLoopM (coarse_Block_b2 N a1 a2) (fun s2=>⟨[(1,.v (.c (.int .i64 a2))),(2,.v (.c (.bool a3))),(6,.v (.c (.ptr 1 0 0 0 0 0))),(7,.v (.c (.clo 108 []))),(8,.v (.c (.ptr 2 0 0 0 0 0))),(12,.v (.agg [.ints 64 .i64 a1])),(13,.v (.c (.int .i64 s2.1)))],[(1,.mem true 62 none (.flat [.ints 64 .i64 (List.replicate 64 0)])),(2,.mem true 62 none (.flat [.ints 64 .i64 s2.2]))],3⟩) hl (To.mk' [] 0 hε rfl zL zL) (fun s2 zs2 NNs2 hz hnexts2 houts2 => ?_)
   clear hl hT
   have hT:=hz;clear hz
   refine zA hX ?_
   refine rSeq ?_
   refine zCond rfl rfl (fun hc => ?_) (fun hc => ?_)
   .replace hT:=sT hc hT
    refine rSkip (rThen (rSeq (rBlock ?_)))
    replace hT:=sIf hT;obtain⟨⟨o1,o2,o3⟩,hT⟩:=hT
    refine zA hX ?_
    let c2:=(coarse_Inter N (a1.getD (s2.1).toNat 0) a2)
    replace hT:=sIf hT;obtain⟨⟨o1,o2,o3,o4⟩,hT⟩:=hT
    refine zReg md0 hX rfl rfl rfl ?_
    refine rInNormal (rThen ?_)
    replace hT:=sIf hT;obtain⟨o1,hT⟩:=hT
    refine zReg md0 hX rfl rfl rfl ?_
    exact hnexts2 _ (sJ hT).symm _ (To.mk' [] 0 hε rfl zL zL)
   .replace hT:=sF hc hT
    refine rExit (rThenExit (rThenExit ?_))
    exact zTo [] 0 hε (hxs20 _ (houts2 _ (sJ hT).symm))
 .cases h
def feed_Block_b1(N:Nat) (c3:(Option (List Int))) (s1:(Int×(List Int))):Option ((Int×(List Int))⊕(List Int)):=
 bif(decide (s1.1<64))then
  if(0:Int)<=s1.1/\s1.1<64/\(s1.1).toNat<64 then
   let x2:=(s1.2.set (s1.1).toNat ((s1.2.getD (s1.1).toNat 0)+((c3.getD default).getD (s1.1).toNat 0)))
   if(0:Int)<=s1.1/\s1.1<64/\(s1.1).toNat<64/\inK .i64 ((s1.2.getD (s1.1).toNat 0)+((c3.getD default).getD (s1.1).toNat 0))then
    if inK .i64 (s1.1+1)then
     some (.inl ((s1.1+1),x2))
    else none
   else none
  else none
 else
  some (.inr s1.2)
def feed_Block(N:Nat)(a1:(List Int))(a2:(List Int))(a3:Int)(a4:Int)(a5:Bool):Option (List Int):=
 let c1:=(feed_plain N a1 a2 a3 a4 a5)
 if c1.isSome=true then
  let x1:=(bif(decide ((c1.getD default).2.2.1=(c1.getD default).2.2.2.1))then(decide ((c1.getD default).2.1=(List.replicate 64 0)))else false)
  bif x1 then
   some (c1.getD default).1
  else
   let c2:=(scale_Block N (c1.getD default).1 (c1.getD default).2.2.1 false 0)
   if c2.isSome=true then
    let c3:=(dct_Forward N (c1.getD default).2.1)
    if c3.isSome=true then
     (iter (feed_Block_b1 N c3) N (0,(c2.getD default))).bind fun v1=>
      let c4:=(coarse_Block N v1 (c1.getD default).2.2.2.1 (c1.getD default).2.2.2.2)
      if c4.isSome=true then
       some (c4.getD default)
      else none
    else none
   else none
 else none
def sp_feed_Block(N:Nat):X.Spec:=fun args lk=>match args with
 | [.v (.agg [.ints 64 .i64 a1,.ints 64 .i64 a2,.cs [.int .i64 a3,.int .i64 a4,.bool a5]])]=>some ⟨(feed_Block N a1 a2 a3 a4 a5).isSome=true,.v (.agg [.ints 64 .i64 ((feed_Block N a1 a2 a3 a4 a5).getD default)]),[],[]⟩
 | _=>none
theorem ok_feed_Block(N:Nat):FnOK Tryz.prog gt0 45 (sp_feed_Block N):=by
 refine fnOK_handed Tryz.func45 rfl (by kernel_rfl) tt_ok (ktCons (ok_coarse_Block N) (ktCons (ok_dct_Forward N) (ktCons (ok_scale_Block N) (ktCons (ok_feed_plain N) (ktNil))))) ?_
 intro args lk r h hp
 unfold sp_feed_Block at h
 split at h
 .rename_i a1 a2 a3 a4 a5
  change (List Int)at a1
  change (List Int)at a2
  cases h
  obtain⟨x,hT⟩:=sX hp;clear hp
  simp only[hT,Option.getD_some]
  refine hand0 rfl rfl fun w0 M ε0 hX=>rCount fun hε => ?_
  unfold feed_Block at hT
  refine zA hX ?_
  let c1:=(feed_plain N a1 a2 a3 a4 a5)
  replace hT:=sIf hT;obtain⟨o1,hT⟩:=hT
  refine zA hX ?_
  refine rSeq ?_
  let x1:=(bif(decide ((c1.getD default).2.2.1=(c1.getD default).2.2.2.1))then(decide ((c1.getD default).2.1=(List.replicate 64 0)))else false)
  refine zA hX ?_
  refine zCond rfl rfl (fun hc => ?_) (fun hc => ?_)
  .replace hT:=sT hc hT
   refine zA hX ?_
   refine rRet (rThenRet ?_)
   have hy:=sJ hT;subst hy
   exact zEnd0 hX rfl
  .replace hT:=sF hc hT
   refine rSkip (rThen ?_)
   let c2:=(scale_Block N (c1.getD default).1 (c1.getD default).2.2.1 false 0)
   replace hT:=sIf hT;obtain⟨o1,hT⟩:=hT
   refine zA hX ?_
   refine rSeq ?_
   let c3:=(dct_Forward N (c1.getD default).2.1)
   replace hT:=sIf hT;obtain⟨o1,hT⟩:=hT
   refine zA hX ?_
   refine rBlock ?_
   replace hT:=sBind hT;obtain⟨w1,hl,hT⟩:=hT
   refine rJoinA (fun v1=>v1=w1) (fun v1=>⟨[(1,.v (.c (.ptr 0 0 0 0 0 0))),(2,.v (.c (.ptr 1 0 0 0 0 0))),(3,.v (.c (.ptr 2 0 0 0 0 0)))],[(0,.mem true 96 none (.flat [.ints 64 .i64 (c1.getD default).1,.ints 64 .i64 (c1.getD default).2.1,.cs [.int .i64 (c1.getD default).2.2.1,.int .i64 (c1.getD default).2.2.2.1,.bool (c1.getD default).2.2.2.2]])),(1,.mem true 62 none (.flat [.ints 64 .i64 (List.replicate 64 0)])),(2,.mem true 62 none (.flat [.ints 64 .i64 v1]))],3⟩) (.exit 0) (fun v1 hv => ?_) (fun hxs10 => ?_)
   .subst hv;clear hl
    refine rInHit (rThen ?_)
    let c4:=(coarse_Block N v1 (c1.getD default).2.2.2.1 (c1.getD default).2.2.2.2)
    replace hT:=sIf hT;obtain⟨o1,hT⟩:=hT
    refine zA hX ?_
    refine rRet ?_
    have hy:=sJ hT;subst hy
    exact zEnd0 hX rfl
   refine rLoopM (feed_Block_b1 N c3) (fun s1=>⟨[(1,.v (.c (.ptr 0 0 0 0 0 0))),(2,.v (.c (.ptr 1 0 0 0 0 0))),(3,.v (.c (.ptr 2 0 0 0 0 0))),(28,.v (.agg [.ints 64 .i64 (c3.getD default)])),(29,.v (.c (.int .i64 s1.1)))],[(0,.mem true 96 none (.flat [.ints 64 .i64 (c1.getD default).1,.ints 64 .i64 (c1.getD default).2.1,.cs [.int .i64 (c1.getD default).2.2.1,.int .i64 (c1.getD default).2.2.2.1,.bool (c1.getD default).2.2.2.2]])),(1,.mem true 62 none (.flat [.ints 64 .i64 (List.replicate 64 0)])),(2,.mem true 62 none (.flat [.ints 64 .i64 s1.2]))],3⟩) hl (To.mk' [] 0 hε rfl zL zL) (fun s1 zs1 NNs1 hz hnexts1 houts1 => ?_)
   clear hl hT
   have hT:=hz;clear hz
   refine zA hX ?_
   refine rSeq ?_
   refine zCond rfl rfl (fun hc => ?_) (fun hc => ?_)
   .replace hT:=sT hc hT
    refine rSkip (rThen (rSeq (rBlock ?_)))
    replace hT:=sIf hT;obtain⟨⟨o1,o2,o3⟩,hT⟩:=hT
    refine zA hX ?_
    let x2:=(s1.2.set (s1.1).toNat ((s1.2.getD (s1.1).toNat 0)+((c3.getD default).getD (s1.1).toNat 0)))
    replace hT:=sIf hT;obtain⟨⟨o1,o2,o3,o4⟩,hT⟩:=hT
    refine zReg md0 hX rfl rfl rfl ?_
    refine rInNormal (rThen ?_)
    replace hT:=sIf hT;obtain⟨o1,hT⟩:=hT
    refine zReg md0 hX rfl rfl rfl ?_
    exact hnexts1 _ (sJ hT).symm _ (To.mk' [] 0 hε rfl zL zL)
   .replace hT:=sF hc hT
    refine rExit (rThenExit (rThenExit ?_))
    exact zTo [] 0 hε (hxs10 _ (houts1 _ (sJ hT).symm))
 .cases h
def feed_Cell_b1(N:Nat)(a3:Int)(a8:(List Int))(a9:Int)(a10:Int) (s1:(Int×(List Int))):Option ((Int×(List Int))⊕(List Int)):=
 bif(decide (s1.1<6))then
  let c2:=(feed_Block N ((s1.2.drop (64*(s1.1).toNat)).take 64) ((a8.drop (64*(s1.1).toNat)).take 64) a9 a10 (bif(decide (a3=3))then true else(decide (a3=4))))
  if(0:Int)<=s1.1/\s1.1<6/\(64*(s1.1).toNat)+64<=384/\c2.isSome=true then
   if inK .i64 (s1.1+1)then
    some (.inl ((s1.1+1),(layL s1.2 (64*(s1.1).toNat) (c2.getD default) 64)))
   else none
  else none
 else
  some (.inr s1.2)
def feed_Cell(N:Nat)(a1:Int)(a2:Bool)(a3:Int)(a4:Int)(a5:(List Int))(a6:(List Int))(a7:Zt1)(a8:(List Int))(a9:Int)(a10:Int):Option ((List Int)×Int):=
 let c1:=(residue_Levels N a1 a2 a3 a4 a5 a6 a7)
 if c1.isSome=true then
  bif(decide ((c1.getD default).2≠0))then
   some ((List.replicate 384 0),(c1.getD default).2)
  else
   (iter (feed_Cell_b1 N a3 a8 a9 a10) N (0,(c1.getD default).1)).bind fun v1=>
    some (v1,0)
 else none
def sp_feed_Cell(N:Nat):X.Spec:=fun args lk=>match args with
 | [.v (.agg [.cs [.int .i64 a1,.bool a2,.int .i64 a3,.int .i64 a4],.ints 2 .i64 a5,.ints 6 .i64 a6,.fzs 6 (.pair .bool (.pair (.int .i64) (.int .i64))) a7]),.v (.agg [.ints 384 .i64 a8]),.v (.c (.int .i64 a9)),.v (.c (.int .i64 a10))]=>some ⟨(feed_Cell N a1 a2 a3 a4 a5 a6 a7 a8 a9 a10).isSome=true,.tup [.agg [.ints 384 .i64 ((feed_Cell N a1 a2 a3 a4 a5 a6 a7 a8 a9 a10).getD default).1],.c (.int .i64 ((feed_Cell N a1 a2 a3 a4 a5 a6 a7 a8 a9 a10).getD default).2)],[],[]⟩
 | _=>none
theorem ok_feed_Cell(N:Nat):FnOK Tryz.prog gt0 21 (sp_feed_Cell N):=by
 refine fnOK_handed Tryz.func21 rfl (by kernel_rfl) tt_ok (ktCons (ok_feed_Block N) (ktCons (ok_residue_Levels N) (ktNil))) ?_
 intro args lk r h hp
 unfold sp_feed_Cell at h
 split at h
 .rename_i a1 a2 a3 a4 a5 a6 a7 a8 a9 a10
  change (List Int)at a5
  change (List Int)at a6
  change Zt1 at a7
  change (List Int)at a8
  cases h
  obtain⟨x,hT⟩:=sX hp;clear hp
  simp only[hT,Option.getD_some]
  refine hand0 rfl rfl fun w0 M ε0 hX=>rCount fun hε => ?_
  unfold feed_Cell at hT
  refine zA hX ?_
  let c1:=(residue_Levels N a1 a2 a3 a4 a5 a6 a7)
  replace hT:=sIf hT;obtain⟨o1,hT⟩:=hT
  refine zA hX ?_
  refine rSeq (zA hX ?_)
  refine zCond rfl rfl (fun hc => ?_) (fun hc => ?_)
  .replace hT:=sT hc hT
   refine zA hX ?_
   refine rRet (rThenRet ?_)
   have hy:=sJ hT;subst hy
   exact zEnd0 hX rfl
  .replace hT:=sF hc hT
   refine rSkip (rThen (zA hX ?_))
   refine rSeq (zA hX ?_)
   refine rBlock ?_
   replace hT:=sBind hT;obtain⟨w1,hl,hT⟩:=hT
   refine rJoinA (fun v1=>v1=w1) (fun v1=>⟨[(8,.v (.c (.ptr 2 0 0 0 0 0))),(9,.v (.c (.int .i64 0))),(10,.v (.c (.ptr 3 0 0 0 0 0)))],[(2,.mem true 64 none (.flat [.ints 384 .i64 (List.replicate 384 0)])),(3,.mem true 64 none (.flat [.ints 384 .i64 v1]))],4⟩) (.exit 0) (fun v1 hv => ?_) (fun hxs10 => ?_)
   .subst hv;clear hl
    refine rInHit (rThen (zA hX ?_))
    refine rRet ?_
    have hy:=sJ hT;subst hy
    exact zEnd0 hX rfl
   refine rLoopM (feed_Cell_b1 N a3 a8 a9 a10) (fun s1=>⟨[(2,.v (.c (.int .i64 a9))),(3,.v (.c (.int .i64 a10))),(5,.v (.c (.ptr 1 0 0 0 0 0))),(8,.v (.c (.ptr 2 0 0 0 0 0))),(9,.v (.c (.int .i64 0))),(10,.v (.c (.ptr 3 0 0 0 0 0))),(12,.v (.c (.bool (bif(decide (a3=3))then true else(decide (a3=4)))))),(31,.v (.c (.int .i64 s1.1)))],[(1,.mem true 64 none (.flat [.ints 384 .i64 a8])),(2,.mem true 64 none (.flat [.ints 384 .i64 (List.replicate 384 0)])),(3,.mem true 64 none (.flat [.ints 384 .i64 s1.2]))],4⟩) hl (To.mk' [] 0 hε rfl zL zL) (fun s1 zs1 NNs1 hz hnexts1 houts1 => ?_)
   clear hl hT
   have hT:=hz;clear hz
   refine zA hX ?_
   refine rSeq ?_
   refine zCond rfl rfl (fun hc => ?_) (fun hc => ?_)
   .replace hT:=sT hc hT
    refine rSkip (rThen (rSeq (rBlock (zA hX ?_))))
    let c2:=(feed_Block N ((s1.2.drop (64*(s1.1).toNat)).take 64) ((a8.drop (64*(s1.1).toNat)).take 64) a9 a10 (bif(decide (a3=3))then true else(decide (a3=4))))
    replace hT:=sIf hT;obtain⟨⟨o1,o2,o3,o4⟩,hT⟩:=hT
    refine zDraw md0 1 [13] hX mixed rfl rfl rfl rfl rfl ?_
    refine rInNormal (rThen ?_)
    replace hT:=sIf hT;obtain⟨o1,hT⟩:=hT
    refine zReg md0 hX rfl rfl rfl ?_
    exact hnexts1 _ (sJ hT).symm _ (To.mk' [] 0 hε rfl zL zL)
   .replace hT:=sF hc hT
    refine rExit (rThenExit (rThenExit ?_))
    exact zTo [] 0 hε (hxs10 _ (houts1 _ (sJ hT).symm))
 .cases h
def pattern_intra(N:Nat)(a1:Int)(a2:Bool)(a3:Int)(a4:Int)(a5:(List Int))(a6:(List Int))(a7:Zt1):Option Bool:=
 some (bif(decide (a3=3))then true else(decide (a3=4)))
def sp_pattern_intra(N:Nat):X.Spec:=fun args lk=>match args with
 | [.v (.agg [.cs [.int .i64 a1,.bool a2,.int .i64 a3,.int .i64 a4],.ints 2 .i64 a5,.ints 6 .i64 a6,.fzs 6 (.pair .bool (.pair (.int .i64) (.int .i64))) a7])]=>some ⟨(pattern_intra N a1 a2 a3 a4 a5 a6 a7).isSome=true,.v (.c (.bool ((pattern_intra N a1 a2 a3 a4 a5 a6 a7).getD default))),[],[]⟩
 | _=>none
theorem ok_pattern_intra(N:Nat):FnOK Tryz.prog gt0 49 (sp_pattern_intra N):=by
 refine fnOK_handed Tryz.func49 rfl (by kernel_rfl) tt_ok (ktNil) ?_
 intro args lk r h hp
 unfold sp_pattern_intra at h
 split at h
 .rename_i a1 a2 a3 a4 a5 a6 a7
  change (List Int)at a5
  change (List Int)at a6
  change Zt1 at a7
  cases h
  obtain⟨x,hT⟩:=sX hp;clear hp
  simp only[hT,Option.getD_some]
  refine hand0 rfl rfl fun w0 M ε0 hX=>rCount fun hε => ?_
  unfold pattern_intra at hT
  refine zA hX ?_
  refine zA hX ?_
  refine rRet ?_
  have hy:=sJ hT;subst hy
  exact zEnd0 hX rfl
 .cases h
def scan_Told_b1(N:Nat)(a1:(List Int)) (s1:(Int×(List Int))):Option ((Int×(List Int))⊕(List Int)):=
 bif(decide (s1.1<64))then
  if(0:Int)<=s1.1/\s1.1<64/\(s1.1).toNat<64/\(0:Int)<=(placesL.getD (s1.1).toNat 0)/\(placesL.getD (s1.1).toNat 0)<64/\(placesL.getD (s1.1).toNat 0).toNat<64 then
   if inK .i64 (s1.1+1)then
    some (.inl ((s1.1+1),(s1.2.set (s1.1).toNat (a1.getD (placesL.getD (s1.1).toNat 0).toNat 0))))
   else none
  else none
 else
  some (.inr s1.2)
def scan_Told(N:Nat)(a1:(List Int)):Option (List Int):=
 (iter (scan_Told_b1 N a1) N (0,(List.replicate 64 0))).bind fun v1=>
  some v1
def sp_scan_Told(N:Nat):X.Spec:=fun args lk=>match args with
 | [.v (.agg [.ints 64 .i64 a1])]=>some ⟨(scan_Told N a1).isSome=true,.v (.agg [.ints 64 .i64 ((scan_Told N a1).getD default)]),[],[]⟩
 | _=>none
theorem ok_scan_Told(N:Nat):FnOK Tryz.prog gt0 83 (sp_scan_Told N):=by
 refine fnOK_handed Tryz.func83 rfl (by kernel_rfl) tt_ok (ktNil) ?_
 intro args lk r h hp
 unfold sp_scan_Told at h
 split at h
 .rename_i a1
  change (List Int)at a1
  cases h
  obtain⟨x,hT⟩:=sX hp;clear hp
  simp only[hT,Option.getD_some]
  refine hand0 rfl rfl fun w0 M ε0 hX=>rCount fun hε => ?_
  unfold scan_Told at hT
  refine zA hX ?_
  refine zA hX ?_
  refine rSeq (zA hX ?_)
  refine rBlock ?_
  replace hT:=sBind hT;obtain⟨w1,hl,hT⟩:=hT
  refine rJoinA (fun v1=>v1=w1) (fun v1=>⟨[(2,.v (.c (.ptr 1 0 0 0 0 0))),(3,.v (.c (.ptr 2 0 0 0 0 0)))],[(1,.mem true 62 none (.flat [.ints 64 .i64 (List.replicate 64 0)])),(2,.mem true 62 none (.flat [.ints 64 .i64 v1]))],3⟩) (.exit 0) (fun v1 hv => ?_) (fun hxs10 => ?_)
  .subst hv;clear hl
   refine rInHit (rThen (zA hX ?_))
   refine rRet ?_
   have hy:=sJ hT;subst hy
   exact zEnd0 hX rfl
  refine rLoopM (scan_Told_b1 N a1) (fun s1=>⟨[(1,.v (.c (.ptr 0 0 0 0 0 0))),(2,.v (.c (.ptr 1 0 0 0 0 0))),(3,.v (.c (.ptr 2 0 0 0 0 0))),(5,.v (.c (.int .i64 s1.1)))],[(0,.mem true 62 none (.flat [.ints 64 .i64 a1])),(1,.mem true 62 none (.flat [.ints 64 .i64 (List.replicate 64 0)])),(2,.mem true 62 none (.flat [.ints 64 .i64 s1.2]))],3⟩) hl (To.mk' [] 0 hε rfl zL zL) (fun s1 zs1 NNs1 hz hnexts1 houts1 => ?_)
  clear hl hT
  have hT:=hz;clear hz
  refine zA hX ?_
  refine rSeq ?_
  refine zCond rfl rfl (fun hc => ?_) (fun hc => ?_)
  .replace hT:=sT hc hT
   refine rSkip (rThen (rSeq (rBlock (zA hX ?_))))
   replace hT:=sIf hT;obtain⟨⟨o1,o2,o3,o4,o5,o6⟩,hT⟩:=hT
   refine zReg md0 hX rfl rfl rfl ?_
   refine rInNormal (rThen ?_)
   replace hT:=sIf hT;obtain⟨o1,hT⟩:=hT
   refine zReg md0 hX rfl rfl rfl ?_
   exact hnexts1 _ (sJ hT).symm _ (To.mk' [] 0 hε rfl zL zL)
  .replace hT:=sF hc hT
   refine rExit (rThenExit (rThenExit ?_))
   exact zTo [] 0 hε (hxs10 _ (houts1 _ (sJ hT).symm))
 .cases h
def runs_Events_b1(N:Nat)(a1:(List Int))(a2:Int)(s2:Zt9):Option (Zt9⊕(Unit⊕Zt11)):=
 bif(decide (s2.2.2.1<64))then
  if(0:Int)<=s2.2.2.1/\s2.2.2.1<64/\(s2.2.2.1).toNat<64 then
   bif(decide (s2.2.2.1<a2))then
    if inK .i64 (s2.2.2.1+1)then
     some (.inl (s2.1,s2.2.1,(s2.2.2.1+1),s2.2.2.2))
    else none
   else
    let x2:=(bif(decide ((a1.getD (s2.2.2.1).toNat 0)<(-127)))then true else(decide ((127:Int)<(a1.getD (s2.2.2.1).toNat 0))))
    bif x2 then
     some (.inr (Sum.inl ()))
    else
     bif(decide ((a1.getD (s2.2.2.1).toNat 0)=0))then
      if inK .i64 (s2.2.1+1)then
       if inK .i64 (s2.2.2.1+1)then
        some (.inl (s2.1,(s2.2.1+1),(s2.2.2.1+1),s2.2.2.2))
       else none
      else none
     else
      if s2.2.2.2.length=s2.1/\(s2.1+1)*24<=140737488355328/\s2.1+1<=9223372036854775807 then
       if inK .i64 (s2.2.2.1+1)then
        some (.inl ((s2.1+1),0,(s2.2.2.1+1),(s2.2.2.2++[(false,(s2.2.1,(a1.getD (s2.2.2.1).toNat 0)))])))
       else none
      else none
  else none
 else
  some (.inr (Sum.inr (s2.1,s2.2.2.2)))
def runs_Events(N:Nat)(a1:(List Int))(a2:Int):Option ((List (Bool×(Int×Int)))×Int):=
 bif(bif(decide (a2≠0))then(decide (a2≠1))else false)then
  some ([],1)
 else
  (iter (runs_Events_b1 N a1 a2) N (0,0,0,[])).bind fun w1=>
   (Sum.elim (fun v1=>
    some ([],7)
   )
    (fun v2=>
     if((decide ((0:Int)<(v2.1:Int)))=true->inK .i64 ((v2.1:Int)-1))/\((decide ((0:Int)<(v2.1:Int)))=true->(0:Int)<=((v2.1:Int)-1))/\((decide ((0:Int)<(v2.1:Int)))=true->((v2.1:Int)-1)<(v2.1:Int))/\((decide ((0:Int)<(v2.1:Int)))=true->((v2.1:Int)-1).toNat<v2.2.length)then
      let x1:=(bif(decide ((0:Int)<(v2.1:Int)))then(v2.2.set ((v2.1:Int)-1).toNat (true,(v2.2.getD ((v2.1:Int)-1).toNat Zd1).2))else v2.2)
      if v2.1=x1.length then
       some (x1,0)
      else none
     else none
    )
   ) w1
def sp_runs_Events(N:Nat):X.Spec:=fun args lk=>match args with
 | [.v (.agg [.ints 64 .i64 a1]),.v (.c (.int .i64 a2))]=>some ⟨(runs_Events N a1 a2).isSome=true,.tup [.c (.fz Zs1 ((runs_Events N a1 a2).getD default).1),.c (.int .i64 ((runs_Events N a1 a2).getD default).2)],[],[]⟩
 | _=>none
theorem ok_runs_Events(N:Nat):FnOK Tryz.prog gt0 82 (sp_runs_Events N):=by
 refine fnOK_handed Tryz.func82 rfl (by kernel_rfl) tt_ok (ktNil) ?_
 intro args lk r h hp
 unfold sp_runs_Events at h
 split at h
 .rename_i a1 a2
  change (List Int)at a1
  cases h
  obtain⟨x,hT⟩:=sX hp;clear hp
  simp only[hT,Option.getD_some]
  refine hand0 rfl rfl fun w0 M ε0 hX=>rCount fun hε => ?_
  unfold runs_Events at hT
  refine zA hX ?_
  refine rSeq (zA hX ?_)
  refine zCond rfl rfl (fun hc => ?_) (fun hc => ?_)
  .replace hT:=sT hc hT
   refine zA hX ?_
   refine rRet (rThenRet ?_)
   have hy:=sJ hT;subst hy
   exact zEnd0 hX rfl
  .replace hT:=sF hc hT
   refine rSkip (rThen (zA hX ?_))
   refine zA hX ?_
   refine rSeq (zA hX ?_)
   refine rBlock (rNil 61 3 (.lst Zs1 []) [(1,.v (.c (.int .i64 a2))),(4,.v (.c (.val (.slice none 0 0)))),(5,.v (.c (.int .i64 0))),(6,.v (.c (.sl 1 0 0 3))),(7,.v (.c (.int .i64 0))),(16,.v (.agg [.ints 64 .i64 a1])),(17,.v (.c (.int .i64 0)))] [] (nil_lst _) zF zF ?_)
   replace hT:=sBind hT;obtain⟨w1,hl,hT⟩:=hT
   refine rJoinA (fun v1=>(Sum.inl v1)=w1) (fun v1=>⟨[(4,.v (.c (.val (.slice none 0 0)))),(5,.v (.c (.int .i64 7)))],[],2⟩) .ret (fun v1 hv => ?_) (fun hxs20 => ?_)
   .subst hv;clear hl;replace hT:=(sElimL hT)
    refine rInRet (rThenRet ?_)
    have hy:=sJ hT;subst hy
    exact zEnd0 hX rfl
   refine rJoinA (fun v2=>(Sum.inr v2)=w1) (fun v2=>⟨[(4,.v (.c (.val (.slice none 0 0)))),(5,.v (.c (.int .i64 0))),(6,.v (.c (.sl 1 0 v2.1 3)))],[(1,.mem true 61 (some 3) (.lst Zs1 v2.2))],2⟩) (.exit 0) (fun v2 hv => ?_) (fun hxs21 => ?_)
   .subst hv;clear hl;replace hT:=(sElimR hT)
    refine rInHit (rThen (rSeq (zA hX ?_)))
    replace hT:=sIf hT;obtain⟨⟨q1,q2,q3,q4⟩,hT⟩:=hT
    refine rJoin ⟨[(4,.v (.c (.val (.slice none 0 0)))),(5,.v (.c (.int .i64 0))),(6,.v (.c (.sl 1 0 v2.1 3)))],[(1,.mem true 61 (some 3) (.lst Zs1 (bif(decide ((0:Int)<(v2.1:Int)))then(v2.2.set ((v2.1:Int)-1).toNat (true,(v2.2.getD ((v2.1:Int)-1).toNat Zd1).2))else v2.2)))],2⟩ ?_ (fun hj => ?_)
    .let x1:=(bif(decide ((0:Int)<(v2.1:Int)))then(v2.2.set ((v2.1:Int)-1).toNat (true,(v2.2.getD ((v2.1:Int)-1).toNat Zd1).2))else v2.2)
     refine rThen (zA hX ?_)
     refine rRet ?_
     replace hT:=sIf hT;obtain⟨p1,hT⟩:=hT
     refine rFreezeQ 1 Zs1 x1 [(4,.v (.c (.fz Zs1 x1))),(5,.v (.c (.int .i64 0)))] [] rfl rfl zF zF ?_
     have hy:=sJ hT;subst hy
     exact zEnd0 hX rfl
    .clear hT
     refine zCond rfl rfl (fun hc => ?_) (fun hc => ?_)
     .have q1:=q1 hc
      have q2:=q2 hc
      have q3:=q3 hc
      have q4:=q4 hc
      refine zReg md0 hX rfl rfl rfl ?_
      exact rTo (To.mk' [] 0 hε rfl zJ zJ) hj
     .refine rSkip ?_
      exact rTo (To.mk' [] 0 hε rfl zJ zJ) hj
   refine rLoopM (runs_Events_b1 N a1 a2) (fun s2=>⟨[(1,.v (.c (.int .i64 a2))),(4,.v (.c (.val (.slice none 0 0)))),(5,.v (.c (.int .i64 0))),(6,.v (.c (.sl 1 0 s2.1 3))),(7,.v (.c (.int .i64 s2.2.1))),(16,.v (.agg [.ints 64 .i64 a1])),(17,.v (.c (.int .i64 s2.2.2.1)))],[(1,.mem true 61 (some 3) (.lst Zs1 s2.2.2.2))],2⟩) hl (To.mk' [] 0 hε rfl zL zL) (fun s2 zs2 NNs2 hz hnexts2 houts2 => ?_)
   clear hl hT
   have hT:=hz;clear hz
   refine zA hX ?_
   refine rSeq ?_
   refine zCond rfl rfl (fun hc => ?_) (fun hc => ?_)
   .replace hT:=sT hc hT
    refine rSkip (rThen (rSeq (rBlock ?_)))
    replace hT:=sIf hT;obtain⟨⟨o1,o2,o3⟩,hT⟩:=hT
    refine zA hX ?_
    refine rSeq (rBlock (zA hX ?_))
    refine zCond rfl rfl (fun hc => ?_) (fun hc => ?_)
    .replace hT:=sT hc hT
     refine rExit (rInMiss rfl (rThenExit (rInHit (rThen ?_))))
     replace hT:=sIf hT;obtain⟨o1,hT⟩:=hT
     refine zReg md0 hX rfl rfl rfl ?_
     exact hnexts2 _ (sJ hT).symm _ (To.mk' [] 0 hε rfl zL zL)
    .replace hT:=sF hc hT
     let x2:=(bif(decide ((a1.getD (s2.2.2.1).toNat 0)<(-127)))then true else(decide ((127:Int)<(a1.getD (s2.2.2.1).toNat 0))))
     refine zA hX ?_
     refine zCond rfl rfl (fun hc => ?_) (fun hc => ?_)
     .replace hT:=sT hc hT
      refine zA hX ?_
      refine rRet (rInRet (rThenRet (rInRet (rThenRet (rThenRet ?_)))))
      exact zTo [] 0 hε (hxs20 _ (houts2 _ (sJ hT).symm))
     .replace hT:=sF hc hT
      refine zA hX ?_
      refine zCond rfl rfl (fun hc => ?_) (fun hc => ?_)
      .replace hT:=sT hc hT
       replace hT:=sIf hT;obtain⟨o1,hT⟩:=hT
       refine zA hX ?_
       refine rExit (rInMiss rfl (rThenExit (rInHit (rThen ?_))))
       replace hT:=sIf hT;obtain⟨o1,hT⟩:=hT
       refine zReg md0 hX rfl rfl rfl ?_
       exact hnexts2 _ (sJ hT).symm _ (To.mk' [] 0 hε rfl zL zL)
      .replace hT:=sF hc hT
       refine rSkip (rInNormal (rThen ?_))
       replace hT:=sIf hT;obtain⟨⟨o1,o2,o3⟩,hT⟩:=hT
       refine rSeq (zReg md0 hX rfl rfl rfl ?_)
       refine rLstQ 2 Zs1 [(false,(s2.2.1,(a1.getD (s2.2.2.1).toNat 0)))] rfl rfl rfl ?_
       refine rThen (zReg md0 hX rfl rfl rfl ?_)
       refine rInNormal (rThen ?_)
       replace hT:=sIf hT;obtain⟨o1,hT⟩:=hT
       refine zReg md0 hX rfl rfl rfl ?_
       exact hnexts2 _ (sJ hT).symm _ (To.mk' [0,3] 0 hε rfl zL zL)
   .replace hT:=sF hc hT
    refine rExit (rThenExit (rThenExit ?_))
    exact zTo [] 0 hε (hxs21 _ (houts2 _ (sJ hT).symm))
 .cases h
def pattern_events_b1(N:Nat)(a8:(List Int))(c1:(Option Bool))(s1:Zt10):Option (Zt10⊕(Zt1⊕Zt1)):=
 bif(decide (s1.1<6))then
  if(0:Int)<=s1.1/\s1.1<6/\(64*(s1.1).toNat)+64<=384 then
   let c2:=(scan_Told N ((a8.drop (64*(s1.1).toNat)).take 64))
   let c3:=(runs_Events N (c2.getD default) (bif(c1.getD default)then(1:Int)else 0))
   if c2.isSome=true/\c3.isSome=true then
    let x3:=(bif(decide ((c3.getD default).2≠0))then true else(bif(decide ((bif(c1.getD default)then(1:Int)else 0)=1))then(decide ((((a8.drop (64*(s1.1).toNat)).take 64).getD 0 0)≠0))else false))
    if((!(decide ((c3.getD default).2≠0)))=true->((decide ((bif(c1.getD default)then(1:Int)else 0)=1))=true->((!(decide ((c3.getD default).2≠0)))&&(decide ((bif(c1.getD default)then(1:Int)else 0)=1)))=true))then
     bif x3 then
      some (.inr (Sum.inl s1.2))
     else
      if(0:Int)<=s1.1/\s1.1<6/\(s1.1).toNat<6 then
       if inK .i64 (s1.1+1)then
        some (.inl ((s1.1+1),(s1.2.set (s1.1).toNat (c3.getD default).1)))
       else none
      else none
    else none
   else none
  else none
 else
  some (.inr (Sum.inr s1.2))
def pattern_events(N:Nat)(a1:Int)(a2:Bool)(a3:Int)(a4:Int)(a5:(List Int))(a6:(List Int))(a7:Zt1)(a8:(List Int)):Option ((List (List (Bool×(Int×Int))))×Bool):=
 let c1:=(pattern_intra N a1 a2 a3 a4 a5 a6 a7)
 if c1.isSome=true then
  (iter (pattern_events_b1 N a8 c1) N (0,(List.replicate 6 []))).bind fun w1=>
   (Sum.elim (fun v1=>
    some (v1,false)
   )
    (fun v2=>
     some (v2,true)
    )
   ) w1
 else none
def sp_pattern_events(N:Nat):X.Spec:=fun args lk=>match args with
 | [.v (.agg [.cs [.int .i64 a1,.bool a2,.int .i64 a3,.int .i64 a4],.ints 2 .i64 a5,.ints 6 .i64 a6,.fzs 6 (.pair .bool (.pair (.int .i64) (.int .i64))) a7]),.v (.agg [.ints 384 .i64 a8])]=>some ⟨(pattern_events N a1 a2 a3 a4 a5 a6 a7 a8).isSome=true,.tup [.agg [.fzs 6 Zs1 ((pattern_events N a1 a2 a3 a4 a5 a6 a7 a8).getD default).1],.c (.bool ((pattern_events N a1 a2 a3 a4 a5 a6 a7 a8).getD default).2)],[],[]⟩
 | _=>none
theorem ok_pattern_events(N:Nat):FnOK Tryz.prog gt0 48 (sp_pattern_events N):=by
 refine fnOK_handed Tryz.func48 rfl (by kernel_rfl) tt_ok (ktCons (ok_runs_Events N) (ktCons (ok_scan_Told N) (ktCons (ok_pattern_intra N) (ktNil)))) ?_
 intro args lk r h hp
 unfold sp_pattern_events at h
 split at h
 .rename_i a1 a2 a3 a4 a5 a6 a7 a8
  change (List Int)at a5
  change (List Int)at a6
  change Zt1 at a7
  change (List Int)at a8
  cases h
  obtain⟨x,hT⟩:=sX hp;clear hp
  simp only[hT,Option.getD_some]
  refine hand0 rfl rfl fun w0 M ε0 hX=>rCount fun hε => ?_
  unfold pattern_events at hT
  refine zA hX ?_
  refine zA hX ?_
  refine zA hX ?_
  refine rSeq ?_
  let c1:=(pattern_intra N a1 a2 a3 a4 a5 a6 a7)
  replace hT:=sIf hT;obtain⟨o1,hT⟩:=hT
  refine zA hX ?_
  refine rJoin ⟨[(3,.v (.c (.ptr 1 0 0 0 0 0))),(4,.v (.c (.ptr 2 0 0 0 0 0))),(5,.v (.c (.bool false))),(6,.v (.c (.ptr 3 0 0 0 0 0))),(7,.v (.c (.int .i64 (bif(c1.getD default)then(1:Int)else 0))))],[(1,.mem true 64 none (.flat [.ints 384 .i64 a8])),(2,.mem true 33 none (.flat [.fzs 6 Zs1 (List.replicate 6 [])])),(3,.mem true 33 none (.flat [.fzs 6 Zs1 (List.replicate 6 [])]))],4⟩ ?_ (fun hj => ?_)
  .refine rThen (rSeq (zA hX ?_))
   refine rBlock ?_
   replace hT:=sBind hT;obtain⟨w1,hl,hT⟩:=hT
   refine rJoinA (fun v1=>(Sum.inl v1)=w1) (fun v1=>⟨[(4,.v (.c (.ptr 2 0 0 0 0 0))),(5,.v (.c (.bool false)))],[(2,.mem true 33 none (.flat [.fzs 6 Zs1 v1]))],4⟩) .ret (fun v1 hv => ?_) (fun hxs10 => ?_)
   .subst hv;clear hl;replace hT:=(sElimL hT)
    refine rInRet (rThenRet ?_)
    have hy:=sJ hT;subst hy
    exact zEnd0 hX rfl
   refine rJoinA (fun v2=>(Sum.inr v2)=w1) (fun v2=>⟨[(4,.v (.c (.ptr 2 0 0 0 0 0))),(5,.v (.c (.bool false))),(6,.v (.c (.ptr 3 0 0 0 0 0)))],[(2,.mem true 33 none (.flat [.fzs 6 Zs1 (List.replicate 6 [])])),(3,.mem true 33 none (.flat [.fzs 6 Zs1 v2]))],4⟩) (.exit 0) (fun v2 hv => ?_) (fun hxs11 => ?_)
   .subst hv;clear hl;replace hT:=(sElimR hT)
    refine rInHit (rThen (zA hX ?_))
    refine rRet ?_
    have hy:=sJ hT;subst hy
    exact zEnd0 hX rfl
   refine rLoopM (pattern_events_b1 N a8 c1) (fun s1=>⟨[(4,.v (.c (.ptr 2 0 0 0 0 0))),(5,.v (.c (.bool false))),(6,.v (.c (.ptr 3 0 0 0 0 0))),(7,.v (.c (.int .i64 (bif(c1.getD default)then(1:Int)else 0)))),(14,.v (.agg [.ints 384 .i64 a8])),(15,.v (.c (.int .i64 s1.1)))],[(2,.mem true 33 none (.flat [.fzs 6 Zs1 (List.replicate 6 [])])),(3,.mem true 33 none (.flat [.fzs 6 Zs1 s1.2]))],4⟩) hl (To.mk' [] 0 hε rfl zL zL) (fun s1 zs1 NNs1 hz hnexts1 houts1 => ?_)
   clear hl hT
   have hT:=hz;clear hz
   refine zA hX ?_
   refine rSeq ?_
   refine zCond rfl rfl (fun hc => ?_) (fun hc => ?_)
   .replace hT:=sT hc hT
    refine rSkip (rThen (rSeq (rBlock ?_)))
    replace hT:=sIf hT;obtain⟨⟨o1,o2,o3⟩,hT⟩:=hT
    refine zA hX ?_
    let c2:=(scan_Told N ((a8.drop (64*(s1.1).toNat)).take 64))
    let c3:=(runs_Events N (c2.getD default) (bif(c1.getD default)then(1:Int)else 0))
    replace hT:=sIf hT;obtain⟨⟨o1,o2⟩,hT⟩:=hT
    refine zA hX ?_
    refine rSeq ?_
    let x3:=(bif(decide ((c3.getD default).2≠0))then true else(bif(decide ((bif(c1.getD default)then(1:Int)else 0)=1))then(decide ((((a8.drop (64*(s1.1).toNat)).take 64).getD 0 0)≠0))else false))
    replace hT:=sIf hT;obtain⟨o1,hT⟩:=hT
    refine rSeq (rRegC md0 hX rfl rfl rfl zO ?_)
    refine rThen ?_
    refine zCond rfl rfl (fun hc => ?_) (fun hc => ?_)
    .replace hT:=sT hc hT
     refine zA hX ?_
     refine rRet (rThenRet (rInRet (rThenRet (rThenRet ?_))))
     exact zTo [] 0 hε (hxs10 _ (houts1 _ (sJ hT).symm))
    .replace hT:=sF hc hT
     refine rSkip (rThen ?_)
     replace hT:=sIf hT;obtain⟨⟨o1,o2,o3⟩,hT⟩:=hT
     refine zReg md0 hX rfl rfl rfl ?_
     refine rInNormal (rThen ?_)
     replace hT:=sIf hT;obtain⟨o1,hT⟩:=hT
     refine zReg md0 hX rfl rfl rfl ?_
     exact hnexts1 _ (sJ hT).symm _ (To.mk' [] 0 hε rfl zL zL)
   .replace hT:=sF hc hT
    refine rExit (rThenExit (rThenExit ?_))
    exact zTo [] 0 hε (hxs11 _ (houts1 _ (sJ hT).symm))
  .clear hT
   refine zCond rfl rfl (fun hc => ?_) (fun hc => ?_)
   .refine zReg md0 hX rfl rfl rfl ?_
    exact rTo (To.mk' [] 0 hε rfl zJ zJ) hj
   .refine rSkip ?_
    exact rTo (To.mk' [] 0 hε rfl zJ zJ) hj
 .cases h
def pattern_Empty(N:Nat)(a1:(List Int)):Option Bool:=
 some (decide (a1=(List.replicate 384 0)))
def sp_pattern_Empty(N:Nat):X.Spec:=fun args lk=>match args with
 | [.v (.agg [.ints 384 .i64 a1])]=>some ⟨(pattern_Empty N a1).isSome=true,.v (.c (.bool ((pattern_Empty N a1).getD default))),[],[]⟩
 | _=>none
theorem ok_pattern_Empty(N:Nat):FnOK Tryz.prog gt0 50 (sp_pattern_Empty N):=by
 refine fnOK_handed Tryz.func50 rfl (by kernel_rfl) tt_ok (ktNil) ?_
 intro args lk r h hp
 unfold sp_pattern_Empty at h
 split at h
 .rename_i a1
  change (List Int)at a1
  cases h
  obtain⟨x,hT⟩:=sX hp;clear hp
  simp only[hT,Option.getD_some]
  refine hand0 rfl rfl fun w0 M ε0 hX=>rCount fun hε => ?_
  unfold pattern_Empty at hT
  refine zA hX ?_
  refine zA hX ?_
  refine rRet ?_
  have hy:=sJ hT;subst hy
  exact zEnd0 hX rfl
 .cases h
def pattern_kind(N:Nat)(a1:Int)(a2:Bool)(a3:Int)(a4:Int)(a5:(List Int))(a6:(List Int))(a7:Zt1)(a8:Int):Option Int:=
 let c1:=(pattern_intra N a1 a2 a3 a4 a5 a6 a7)
 if c1.isSome=true then
  bif(bif(c1.getD default)then(decide (a8≠0))else false)then
   some 4
  else
   let c2:=(pattern_intra N a1 a2 a3 a4 a5 a6 a7)
   if c2.isSome=true then
    bif(c2.getD default)then
     some 3
    else
     bif(decide (a8≠0))then
      some 1
     else
      some 0
   else none
 else none
def sp_pattern_kind(N:Nat):X.Spec:=fun args lk=>match args with
 | [.v (.agg [.cs [.int .i64 a1,.bool a2,.int .i64 a3,.int .i64 a4],.ints 2 .i64 a5,.ints 6 .i64 a6,.fzs 6 (.pair .bool (.pair (.int .i64) (.int .i64))) a7]),.v (.c (.int .i64 a8))]=>some ⟨(pattern_kind N a1 a2 a3 a4 a5 a6 a7 a8).isSome=true,.v (.c (.int .i64 ((pattern_kind N a1 a2 a3 a4 a5 a6 a7 a8).getD default))),[],[]⟩
 | _=>none
theorem ok_pattern_kind(N:Nat):FnOK Tryz.prog gt0 51 (sp_pattern_kind N):=by
 refine fnOK_handed Tryz.func51 rfl (by kernel_rfl) tt_ok (ktCons (ok_pattern_intra N) (ktNil)) ?_
 intro args lk r h hp
 unfold sp_pattern_kind at h
 split at h
 .rename_i a1 a2 a3 a4 a5 a6 a7 a8
  change (List Int)at a5
  change (List Int)at a6
  change Zt1 at a7
  cases h
  obtain⟨x,hT⟩:=sX hp;clear hp
  simp only[hT,Option.getD_some]
  refine hand0 rfl rfl fun w0 M ε0 hX=>rCount fun hε => ?_
  unfold pattern_kind at hT
  refine zA hX ?_
  refine rSeq (rBlock ?_)
  let c1:=(pattern_intra N a1 a2 a3 a4 a5 a6 a7)
  replace hT:=sIf hT;obtain⟨o1,hT⟩:=hT
  refine zA hX ?_
  refine zCond rfl rfl (fun hc => ?_) (fun hc => ?_)
  .replace hT:=sT hc hT
   refine zA hX ?_
   refine rRet (rInRet (rThenRet ?_))
   have hy:=sJ hT;subst hy
   exact zEnd0 hX rfl
  .replace hT:=sF hc hT
   let c2:=(pattern_intra N a1 a2 a3 a4 a5 a6 a7)
   replace hT:=sIf hT;obtain⟨o1,hT⟩:=hT
   refine zA hX ?_
   refine zCond rfl rfl (fun hc => ?_) (fun hc => ?_)
   .replace hT:=sT hc hT
    refine zA hX ?_
    refine rRet (rInRet (rThenRet ?_))
    have hy:=sJ hT;subst hy
    exact zEnd0 hX rfl
   .replace hT:=sF hc hT
    refine zA hX ?_
    refine zCond rfl rfl (fun hc => ?_) (fun hc => ?_)
    .replace hT:=sT hc hT
     refine zA hX ?_
     refine rRet (rInRet (rThenRet ?_))
     have hy:=sJ hT;subst hy
     exact zEnd0 hX rfl
    .replace hT:=sF hc hT
     refine rSkip (rInNormal (rThen (zA hX ?_)))
     refine rRet ?_
     have hy:=sJ hT;subst hy
     exact zEnd0 hX rfl
 .cases h
def pattern_Cell(N:Nat)(a1:Int)(a2:Bool)(a3:Int)(a4:Int)(a5:(List Int))(a6:(List Int))(a7:Zt1)(a8:(List Int))(a9:Int):Option Zt5:=
 let c1:=(cellout_Right N true a1 a2 a3 a4 a5 a6 a7)
 if c1.isSome=true then
  bif(!(c1.getD default))then
   some (0,false,0,0,(List.replicate 2 0),(List.replicate 6 0),(List.replicate 6 []),12)
  else
   let c2:=(steps_Row N a9)
   if c2.isSome=true then
    bif(bif(!(c2.getD default).2)then(decide (a9≠0))else false)then
     some (0,false,0,0,(List.replicate 2 0),(List.replicate 6 0),(List.replicate 6 []),9)
    else
     let c3:=(pattern_events N a1 a2 a3 a4 a5 a6 a7 a8)
     if c3.isSome=true then
      bif(!(c3.getD default).2)then
       some (0,false,0,0,(List.replicate 2 0),(List.replicate 6 0),(List.replicate 6 []),7)
      else
       let c4:=(pattern_intra N a1 a2 a3 a4 a5 a6 a7)
       let c5:=(pattern_Empty N a8)
       let x2:=(bif(bif(bif(!(c4.getD default))then(c5.getD default)else false)then(decide (a5=(List.replicate 2 0)))else false)then(decide (a9=0))else false)
       if c4.isSome=true/\((!(c4.getD default))=true->c5.isSome=true)then
        bif x2 then
         some (0,true,0,0,(List.replicate 2 0),(List.replicate 6 0),(List.replicate 6 []),0)
        else
         let c6:=(pattern_kind N a1 a2 a3 a4 a5 a6 a7 a9)
         if c6.isSome=true then
          some (0,false,(c6.getD default),a9,a5,a6,(c3.getD default).1,0)
         else none
       else none
     else none
   else none
 else none
def sp_pattern_Cell(N:Nat):X.Spec:=fun args lk=>match args with
 | [.v (.agg [.cs [.int .i64 a1,.bool a2,.int .i64 a3,.int .i64 a4],.ints 2 .i64 a5,.ints 6 .i64 a6,.fzs 6 (.pair .bool (.pair (.int .i64) (.int .i64))) a7]),.v (.agg [.ints 384 .i64 a8]),.v (.c (.int .i64 a9))]=>some ⟨(pattern_Cell N a1 a2 a3 a4 a5 a6 a7 a8 a9).isSome=true,.tup [.agg [.cs [.int .i64 ((pattern_Cell N a1 a2 a3 a4 a5 a6 a7 a8 a9).getD default).1,.bool ((pattern_Cell N a1 a2 a3 a4 a5 a6 a7 a8 a9).getD default).2.1,.int .i64 ((pattern_Cell N a1 a2 a3 a4 a5 a6 a7 a8 a9).getD default).2.2.1,.int .i64 ((pattern_Cell N a1 a2 a3 a4 a5 a6 a7 a8 a9).getD default).2.2.2.1],.ints 2 .i64 ((pattern_Cell N a1 a2 a3 a4 a5 a6 a7 a8 a9).getD default).2.2.2.2.1,.ints 6 .i64 ((pattern_Cell N a1 a2 a3 a4 a5 a6 a7 a8 a9).getD default).2.2.2.2.2.1,.fzs 6 Zs1 ((pattern_Cell N a1 a2 a3 a4 a5 a6 a7 a8 a9).getD default).2.2.2.2.2.2.1],.c (.int .i64 ((pattern_Cell N a1 a2 a3 a4 a5 a6 a7 a8 a9).getD default).2.2.2.2.2.2.2)],[],[]⟩
 | _=>none
theorem ok_pattern_Cell(N:Nat):FnOK Tryz.prog gt0 22 (sp_pattern_Cell N):=by
 refine fnOK_handed Tryz.func22 rfl (by kernel_rfl) tt_ok (ktCons (ok_pattern_kind N) (ktCons (ok_pattern_Empty N) (ktCons (ok_pattern_intra N) (ktCons (ok_pattern_events N) (ktCons (ok_steps_Row N) (ktCons (ok_cellout_Right N) (ktNil))))))) ?_
 intro args lk r h hp
 unfold sp_pattern_Cell at h
 split at h
 .rename_i a1 a2 a3 a4 a5 a6 a7 a8 a9
  change (List Int)at a5
  change (List Int)at a6
  change Zt1 at a7
  change (List Int)at a8
  cases h
  obtain⟨x,hT⟩:=sX hp;clear hp
  simp only[hT,Option.getD_some]
  refine hand0 rfl rfl fun w0 M ε0 hX=>rCount fun hε => ?_
  unfold pattern_Cell at hT
  refine zA hX ?_
  refine rSeq ?_
  let c1:=(cellout_Right N true a1 a2 a3 a4 a5 a6 a7)
  replace hT:=sIf hT;obtain⟨o1,hT⟩:=hT
  refine zA hX ?_
  refine zCond rfl rfl (fun hc => ?_) (fun hc => ?_)
  .replace hT:=sT hc hT
   refine zA hX ?_
   refine rRet (rThenRet ?_)
   have hy:=sJ hT;subst hy
   exact zEnd0 hX rfl
  .replace hT:=sF hc hT
   refine rSkip (rThen (rSeq ?_))
   let c2:=(steps_Row N a9)
   replace hT:=sIf hT;obtain⟨o1,hT⟩:=hT
   refine zA hX ?_
   refine zA hX ?_
   refine zCond rfl rfl (fun hc => ?_) (fun hc => ?_)
   .replace hT:=sT hc hT
    refine zA hX ?_
    refine rRet (rThenRet ?_)
    have hy:=sJ hT;subst hy
    exact zEnd0 hX rfl
   .replace hT:=sF hc hT
    refine rSkip (rThen ?_)
    let c3:=(pattern_events N a1 a2 a3 a4 a5 a6 a7 a8)
    replace hT:=sIf hT;obtain⟨o1,hT⟩:=hT
    refine zA hX ?_
    refine rSeq (rBlock (zA hX ?_))
    refine zCond rfl rfl (fun hc => ?_) (fun hc => ?_)
    .replace hT:=sT hc hT
     refine zA hX ?_
     refine rRet (rInRet (rThenRet ?_))
     have hy:=sJ hT;subst hy
     exact zEnd0 hX rfl
    .replace hT:=sF hc hT
     let c4:=(pattern_intra N a1 a2 a3 a4 a5 a6 a7)
     let c5:=(pattern_Empty N a8)
     let x2:=(bif(bif(bif(!(c4.getD default))then(c5.getD default)else false)then(decide (a5=(List.replicate 2 0)))else false)then(decide (a9=0))else false)
     replace hT:=sIf hT;obtain⟨⟨o1,o2⟩,hT⟩:=hT
     refine rSeq (rRegC md0 hX rfl rfl rfl zO ?_)
     refine rThen ?_
     refine zCond rfl rfl (fun hc => ?_) (fun hc => ?_)
     .replace hT:=sT hc hT
      refine zA hX ?_
      refine rRet (rInRet (rThenRet ?_))
      have hy:=sJ hT;subst hy
      exact zEnd0 hX rfl
     .replace hT:=sF hc hT
      refine rSkip (rInNormal (rThen ?_))
      let c6:=(pattern_kind N a1 a2 a3 a4 a5 a6 a7 a9)
      replace hT:=sIf hT;obtain⟨o1,hT⟩:=hT
      refine rSeq (zDraw md0 1 [10] hX mixed rfl rfl rfl rfl rfl ?_)
      refine rThen (rRet ?_)
      have hy:=sJ hT;subst hy
      exact zEnd0 hX rfl
 .cases h
def cellx_Make(N:Nat)(a1:Int) (a2:(List (List Int))) (a3:Int) (a4:(List (List Int))) (a5:Int) (a6:Int) (a7:Bool) (a8:Int) (a9:Int) (a10:(List Int)) (a11:(List Int)) (a12:Zt1) (a13:Int) (a14:Int) (a15:Int):Option Zt5:=
 let c1:=(residue_Levels N a6 a7 a8 a9 a10 a11 a12)
 if c1.isSome=true then
  bif(decide ((c1.getD default).2≠0))then
   some (0,false,0,0,(List.replicate 2 0),(List.replicate 6 0),(List.replicate 6 []),(c1.getD default).2)
  else
   joinK (fun(v1:(List Int))=>
    let c2:=(feed_Cell N a6 a7 a8 a9 a10 a11 a12 v1 a13 a14)
    if c2.isSome=true then
     bif(decide ((c2.getD default).2≠0))then
      some (0,false,0,0,(List.replicate 2 0),(List.replicate 6 0),(List.replicate 6 []),(c2.getD default).2)
     else
      let c3:=(pattern_Cell N a6 a7 a8 a9 a10 a11 a12 (c2.getD default).1 a15)
      if c3.isSome=true then
       some ((c3.getD default).1,(c3.getD default).2.1,(c3.getD default).2.2.1,(c3.getD default).2.2.2.1,(c3.getD default).2.2.2.2.1,(c3.getD default).2.2.2.2.2.1,(c3.getD default).2.2.2.2.2.2.1,(c3.getD default).2.2.2.2.2.2.2)
      else none
    else none
   ) fun k1=>
    bif(bif(decide (a8≠3))then(decide (a8≠4))else false)then
     let c4:=(stores_Drift N a1 a2 a3 a4 a5 a10)
     if c4.isSome=true then
      bif(decide ((c4.getD default).2≠0))then
       some (0,false,0,0,(List.replicate 2 0),(List.replicate 6 0),(List.replicate 6 []),(c4.getD default).2)
      else
       k1 (c4.getD default).1
     else none
    else
     k1 (List.replicate 384 0)
 else none
def sp_cellx_Make(N:Nat):X.Spec:=fun args lk=>match args with
 | [.v (.agg [.cs [.int .i64 a1],.fzs 3 (.int .u8) a2]),.v (.agg [.cs [.int .i64 a3],.fzs 3 (.int .i64) a4]),.v (.c (.int .i64 a5)),.v (.agg [.cs [.int .i64 a6,.bool a7,.int .i64 a8,.int .i64 a9],.ints 2 .i64 a10,.ints 6 .i64 a11,.fzs 6 (.pair .bool (.pair (.int .i64) (.int .i64))) a12,.cs [.int .i64 a13,.int .i64 a14,.int .i64 a15]])]=>some ⟨(cellx_Make N a1 a2 a3 a4 a5 a6 a7 a8 a9 a10 a11 a12 a13 a14 a15).isSome=true,.tup [.agg [.cs [.int .i64 ((cellx_Make N a1 a2 a3 a4 a5 a6 a7 a8 a9 a10 a11 a12 a13 a14 a15).getD default).1,.bool ((cellx_Make N a1 a2 a3 a4 a5 a6 a7 a8 a9 a10 a11 a12 a13 a14 a15).getD default).2.1,.int .i64 ((cellx_Make N a1 a2 a3 a4 a5 a6 a7 a8 a9 a10 a11 a12 a13 a14 a15).getD default).2.2.1,.int .i64 ((cellx_Make N a1 a2 a3 a4 a5 a6 a7 a8 a9 a10 a11 a12 a13 a14 a15).getD default).2.2.2.1],.ints 2 .i64 ((cellx_Make N a1 a2 a3 a4 a5 a6 a7 a8 a9 a10 a11 a12 a13 a14 a15).getD default).2.2.2.2.1,.ints 6 .i64 ((cellx_Make N a1 a2 a3 a4 a5 a6 a7 a8 a9 a10 a11 a12 a13 a14 a15).getD default).2.2.2.2.2.1,.fzs 6 Zs1 ((cellx_Make N a1 a2 a3 a4 a5 a6 a7 a8 a9 a10 a11 a12 a13 a14 a15).getD default).2.2.2.2.2.2.1],.c (.int .i64 ((cellx_Make N a1 a2 a3 a4 a5 a6 a7 a8 a9 a10 a11 a12 a13 a14 a15).getD default).2.2.2.2.2.2.2)],[],[]⟩
 | _=>none
theorem ok_cellx_Make(N:Nat):FnOK Tryz.prog gt0 6 (sp_cellx_Make N):=by
 refine fnOK_handed Tryz.func6 rfl (by kernel_rfl) tt_ok (ktCons (ok_stores_Drift N) (ktCons (ok_pattern_Cell N) (ktCons (ok_feed_Cell N) (ktCons (ok_residue_Levels N) (ktNil))))) ?_
 intro args lk r h hp
 unfold sp_cellx_Make at h
 split at h
 .rename_i a1 a2 a3 a4 a5 a6 a7 a8 a9 a10 a11 a12 a13 a14 a15
  change (List (List Int))at a2
  change (List (List Int))at a4
  change (List Int)at a10
  change (List Int)at a11
  change Zt1 at a12
  cases h
  obtain⟨x,hT⟩:=sX hp;clear hp
  simp only[hT,Option.getD_some]
  refine hand0 rfl rfl fun w0 M ε0 hX=>rCount fun hε => ?_
  unfold cellx_Make at hT
  refine zA hX ?_
  refine rSeq ?_
  let c1:=(residue_Levels N a6 a7 a8 a9 a10 a11 a12)
  replace hT:=sIf hT;obtain⟨o1,hT⟩:=hT
  refine zA hX ?_
  refine zA hX ?_
  refine zCond rfl rfl (fun hc => ?_) (fun hc => ?_)
  .replace hT:=sT hc hT
   refine zA hX ?_
   refine rRet (rThenRet ?_)
   have hy:=sJ hT;subst hy
   exact zEnd0 hX rfl
  .replace hT:=sF hc hT
   refine rSkip (rThen (zA hX ?_))
   refine rSeq (zA hX ?_)
   refine rJoinK hT (fun v1=>⟨[(7,.v (.c (.ptr 2 0 0 0 0 0))),(8,.v (.c (.ptr 3 0 0 0 0 0))),(9,.v (.c (.int .i64 0))),(12,.v (.c (.ptr 5 0 0 0 0 0)))],[(2,.mem true 44 none (.flat [.cs [.int .i64 a6,.bool a7,.int .i64 a8,.int .i64 a9],.ints 2 .i64 a10,.ints 6 .i64 a11,.fzs 6 Zs1 a12,.cs [.int .i64 a13,.int .i64 a14,.int .i64 a15]])),(3,.mem true 35 none (.flat [.cs [.int .i64 0,.bool false,.int .i64 0,.int .i64 0],.ints 2 .i64 (List.replicate 2 0),.ints 6 .i64 (List.replicate 6 0),.fzs 6 Zs1 (List.replicate 6 [])])),(5,.mem true 64 none (.flat [.ints 384 .i64 v1]))],6⟩) (fun v1 hT => ?_) (fun k1 hjk1 hT => ?_)
   .refine rThen ?_
    let c2:=(feed_Cell N a6 a7 a8 a9 a10 a11 a12 v1 a13 a14)
    replace hT:=sIf hT;obtain⟨o1,hT⟩:=hT
    refine zA hX ?_
    refine rSeq (zA hX ?_)
    refine zCond rfl rfl (fun hc => ?_) (fun hc => ?_)
    .replace hT:=sT hc hT
     refine zA hX ?_
     refine rRet (rThenRet ?_)
     have hy:=sJ hT;subst hy
     exact zEnd0 hX rfl
    .replace hT:=sF hc hT
     refine rSkip (rThen ?_)
     let c3:=(pattern_Cell N a6 a7 a8 a9 a10 a11 a12 (c2.getD default).1 a15)
     replace hT:=sIf hT;obtain⟨o1,hT⟩:=hT
     refine zA hX ?_
     refine rRet ?_
     have hy:=sJ hT;subst hy
     exact zEnd0 hX rfl
   .refine zCond rfl rfl (fun hc => ?_) (fun hc => ?_)
    .replace hT:=sT hc hT
     refine zA hX ?_
     let c4:=(stores_Drift N a1 a2 a3 a4 a5 a10)
     replace hT:=sIf hT;obtain⟨o1,hT⟩:=hT
     refine zA hX ?_
     refine zA hX ?_
     refine zCond rfl rfl (fun hc => ?_) (fun hc => ?_)
     .replace hT:=sT hc hT
      refine zA hX ?_
      refine rRet (rThenRet ?_)
      have hy:=sJ hT;subst hy
      exact zEnd0 hX rfl
     .replace hT:=sF hc hT
      refine rSkip ?_
      exact zTo [] 0 hε (hjk1 _ hT)
    .replace hT:=sF hc hT
     refine rSkip ?_
     exact zTo [] 0 hε (hjk1 _ hT)
 .cases h
def law38_lives(N:Nat):Option Bool:=
 let c1:=(planes_New N 6 100)
 if c1.isSome=true then
  let c2:=(planes_New N 6 110)
  if c2.isSome=true then
   let c3:=(stores_Diff N (c2.getD default).1 (c2.getD default).2.1 (c1.getD default).1 (c1.getD default).2.1)
   if c3.isSome=true then
    let c4:=(cellx_Make N (c1.getD default).1 (c1.getD default).2.1 (c3.getD default).1 (c3.getD default).2.1 0 0 true 0 0 (List.replicate 2 0) (List.replicate 6 0) (List.replicate 6 []) 5 5 0)
    if c4.isSome=true then
     let x1:=(bif(bif(bif(bif(decide ((c4.getD default).2.2.2.2.2.2.2=0))then(!(c4.getD default).2.1)else false)then(decide ((c4.getD default).2.2.1=0))else false)then(decide ((((c4.getD default).2.2.2.2.2.2.1.getD 5 []).length:Int)=1))else false)then(((((c4.getD default).2.2.2.2.2.2.1.getD 5 []).getD 0 Zd1).1==true)&&(decide ((((c4.getD default).2.2.2.2.2.2.1.getD 5 []).getD 0 Zd1).2.1=0)&&(decide ((((c4.getD default).2.2.2.2.2.2.1.getD 5 []).getD 0 Zd1).2.2=7)&&true)))else false)
     if((bif(bif(bif(decide ((c4.getD default).2.2.2.2.2.2.2=0))then(!(c4.getD default).2.1)else false)then(decide ((c4.getD default).2.2.1=0))else false)then(decide ((((c4.getD default).2.2.2.2.2.2.1.getD 5 []).length:Int)=1))else false)=true->(0:Int)<(((c4.getD default).2.2.2.2.2.2.1.getD 5 []).length:Int))then
      some x1
     else none
    else none
   else none
  else none
 else none
def sp_law38_lives(N:Nat):X.Spec:=fun args lk=>match args with
 | []=>some ⟨(law38_lives N).isSome=true,.v (.c (.bool ((law38_lives N).getD default))),[],[]⟩
 | _=>none
theorem ok_law38_lives(N:Nat):FnOK Tryz.prog gt0 5 (sp_law38_lives N):=by
 refine fnOK_handed Tryz.func5 rfl (by kernel_rfl) tt_ok (ktCons (ok_cellx_Make N) (ktCons (ok_stores_Diff N) (ktCons (ok_planes_New N) (ktNil)))) ?_
 intro args lk r h hp
 unfold sp_law38_lives at h
 split at h
 .cases h
  obtain⟨x,hT⟩:=sX hp;clear hp
  simp only[hT,Option.getD_some]
  refine hand0 rfl rfl fun w0 M ε0 hX=>rCount fun hε => ?_
  unfold law38_lives at hT
  refine zA hX ?_
  let c1:=(planes_New N 6 100)
  replace hT:=sIf hT;obtain⟨o1,hT⟩:=hT
  refine zA hX ?_
  let c2:=(planes_New N 6 110)
  replace hT:=sIf hT;obtain⟨o1,hT⟩:=hT
  refine zA hX ?_
  let c3:=(stores_Diff N (c2.getD default).1 (c2.getD default).2.1 (c1.getD default).1 (c1.getD default).2.1)
  replace hT:=sIf hT;obtain⟨o1,hT⟩:=hT
  refine zA hX ?_
  let c4:=(cellx_Make N (c1.getD default).1 (c1.getD default).2.1 (c3.getD default).1 (c3.getD default).2.1 0 0 true 0 0 (List.replicate 2 0) (List.replicate 6 0) (List.replicate 6 []) 5 5 0)
  replace hT:=sIf hT;obtain⟨o1,hT⟩:=hT
  refine zA hX ?_
  let x1:=(bif(bif(bif(bif(decide ((c4.getD default).2.2.2.2.2.2.2=0))then(!(c4.getD default).2.1)else false)then(decide ((c4.getD default).2.2.1=0))else false)then(decide ((((c4.getD default).2.2.2.2.2.2.1.getD 5 []).length:Int)=1))else false)then(((((c4.getD default).2.2.2.2.2.2.1.getD 5 []).getD 0 Zd1).1==true)&&(decide ((((c4.getD default).2.2.2.2.2.2.1.getD 5 []).getD 0 Zd1).2.1=0)&&(decide ((((c4.getD default).2.2.2.2.2.2.1.getD 5 []).getD 0 Zd1).2.2=7)&&true)))else false)
  replace hT:=sIf hT;obtain⟨o1,hT⟩:=hT
  refine rSeq (rRegC md0 hX rfl rfl rfl zO ?_)
  refine rThen (rRet ?_)
  have hy:=sJ hT;subst hy
  exact zEnd0 hX rfl
 .cases h
def ref22_zero_b1(N:Nat)(a6:(List Int))(a7:Zt1)(s1:Int):Option (Int⊕(Unit⊕Unit)):=
 bif(decide (s1<6))then
  let x3:=(bif(decide ((0:Int)<((a7.getD (s1).toNat []).length:Int)))then true else(decide ((a6.getD (s1).toNat 0)≠0)))
  if(0:Int)<=s1/\s1<6/\(s1).toNat<6/\((!(decide ((0:Int)<((a7.getD (s1).toNat []).length:Int))))=true->(0:Int)<=s1)/\((!(decide ((0:Int)<((a7.getD (s1).toNat []).length:Int))))=true->s1<6)/\((!(decide ((0:Int)<((a7.getD (s1).toNat []).length:Int))))=true->(s1).toNat<6)then
   bif x3 then
    some (.inr (Sum.inl ()))
   else
    if inK .i64 (s1+1)then
     some (.inl (s1+1))
    else none
  else none
 else
  some (.inr (Sum.inr ()))
def ref22_zero(N:Nat)(a1:Int)(a2:Bool)(a3:Int)(a4:Int)(a5:(List Int))(a6:(List Int))(a7:Zt1):Option Bool:=
 (iter (ref22_zero_b1 N a6 a7) N 0).bind fun w1=>
  (Sum.elim (fun v1=>
   some false
  )
   (fun v2=>
    let x1:=(bif(bif(bif(decide (a3=0))then(decide (a4=0))else false)then(decide ((a5.getD 0 0)=0))else false)then(decide ((a5.getD 1 0)=0))else false)
    some x1
   )
  ) w1
def sp_ref22_zero(N:Nat):X.Spec:=fun args lk=>match args with
 | [.v (.agg [.cs [.int .i64 a1,.bool a2,.int .i64 a3,.int .i64 a4],.ints 2 .i64 a5,.ints 6 .i64 a6,.fzs 6 (.pair .bool (.pair (.int .i64) (.int .i64))) a7])]=>some ⟨(ref22_zero N a1 a2 a3 a4 a5 a6 a7).isSome=true,.v (.c (.bool ((ref22_zero N a1 a2 a3 a4 a5 a6 a7).getD default))),[],[]⟩
 | _=>none
theorem ok_ref22_zero(N:Nat):FnOK Tryz.prog gt0 23 (sp_ref22_zero N):=by
 refine fnOK_handed Tryz.func23 rfl (by kernel_rfl) tt_ok (ktNil) ?_
 intro args lk r h hp
 unfold sp_ref22_zero at h
 split at h
 .rename_i a1 a2 a3 a4 a5 a6 a7
  change (List Int)at a5
  change (List Int)at a6
  change Zt1 at a7
  cases h
  obtain⟨x,hT⟩:=sX hp;clear hp
  simp only[hT,Option.getD_some]
  refine hand0 rfl rfl fun w0 M ε0 hX=>rCount fun hε => ?_
  unfold ref22_zero at hT
  refine zA hX ?_
  refine rSeq (zA hX ?_)
  refine rBlock ?_
  replace hT:=sBind hT;obtain⟨w1,hl,hT⟩:=hT
  refine rJoinA (fun v1=>(Sum.inl v1)=w1) (fun v1=>⟨[(2,.v (.c (.bool false)))],[],1⟩) .ret (fun v1 hv => ?_) (fun hxs10 => ?_)
  .subst hv;clear hl;replace hT:=(sElimL hT)
   refine rInRet (rThenRet ?_)
   have hy:=sJ hT;subst hy
   exact zEnd0 hX rfl
  refine rJoinA (fun v2=>(Sum.inr v2)=w1) (fun v2=>⟨[(1,.v (.c (.ptr 0 0 0 0 0 0))),(2,.v (.c (.bool false)))],[(0,.mem true 35 none (.flat [.cs [.int .i64 a1,.bool a2,.int .i64 a3,.int .i64 a4],.ints 2 .i64 a5,.ints 6 .i64 a6,.fzs 6 Zs1 a7]))],1⟩) (.exit 0) (fun v2 hv => ?_) (fun hxs11 => ?_)
  .subst hv;clear hl;replace hT:=(sElimR hT)
   refine rInHit (rThen ?_)
   let x1:=(bif(bif(bif(decide (a3=0))then(decide (a4=0))else false)then(decide ((a5.getD 0 0)=0))else false)then(decide ((a5.getD 1 0)=0))else false)
   refine zA hX ?_
   refine rRet ?_
   have hy:=sJ hT;subst hy
   exact zEnd0 hX rfl
  refine rLoopM (ref22_zero_b1 N a6 a7) (fun s1=>⟨[(1,.v (.c (.ptr 0 0 0 0 0 0))),(2,.v (.c (.bool false))),(3,.v (.c (.int .i64 s1)))],[(0,.mem true 35 none (.flat [.cs [.int .i64 a1,.bool a2,.int .i64 a3,.int .i64 a4],.ints 2 .i64 a5,.ints 6 .i64 a6,.fzs 6 Zs1 a7]))],1⟩) hl (To.mk' [] 0 hε rfl zL zL) (fun s1 zs1 NNs1 hz hnexts1 houts1 => ?_)
  clear hl hT
  have hT:=hz;clear hz
  refine rSeq (zA hX ?_)
  refine zCond rfl rfl (fun hc => ?_) (fun hc => ?_)
  .replace hT:=sT hc hT
   refine rSkip (rThen (rSeq (rBlock ?_)))
   let x3:=(bif(decide ((0:Int)<((a7.getD (s1).toNat []).length:Int)))then true else(decide ((a6.getD (s1).toNat 0)≠0)))
   replace hT:=sIf hT;obtain⟨⟨o1,o2,o3,o4,o5,o6⟩,hT⟩:=hT
   refine rSeq (rRegC md0 hX rfl rfl rfl zO ?_)
   refine rThen ?_
   refine zCond rfl rfl (fun hc => ?_) (fun hc => ?_)
   .replace hT:=sT hc hT
    refine zA hX ?_
    refine rRet (rInRet (rThenRet (rThenRet ?_)))
    exact zTo [] 0 hε (hxs10 _ (houts1 _ (sJ hT).symm))
   .replace hT:=sF hc hT
    refine rSkip (rInNormal (rThen ?_))
    replace hT:=sIf hT;obtain⟨o1,hT⟩:=hT
    refine zReg md0 hX rfl rfl rfl ?_
    exact hnexts1 _ (sJ hT).symm _ (To.mk' [] 0 hε rfl zL zL)
  .replace hT:=sF hc hT
   refine rExit (rThenExit (rThenExit ?_))
   exact zTo [] 0 hε (hxs11 _ (houts1 _ (sJ hT).symm))
 .cases h
def ref20_Row(N:Nat)(a1:Int):Option ByteArray:=
 let x1:=(bif(bif(decide (a1<(-2)))then true else(decide ((2:Int)<a1)))then true else(decide (a1=0)))
 bif x1 then
  some ⟨#[]⟩
 else
  if inK .i64 (a1+2)/\(0:Int)<=(a1+2)/\(a1+2)<5 then
   if(a1+2).toNat<([⟨#[48,49]⟩,⟨#[48,48]⟩,⟨#[]⟩,⟨#[49,48]⟩,⟨#[49,49]⟩]:List ByteArray).length then
    let x2:=(([⟨#[48,49]⟩,⟨#[48,48]⟩,⟨#[]⟩,⟨#[49,48]⟩,⟨#[49,49]⟩]:List ByteArray).getD (a1+2).toNat ⟨#[]⟩)
    some x2
   else none
  else none
def sp_ref20_Row(N:Nat):X.Spec:=fun args lk=>match args with
 | [.v (.c (.int .i64 a1))]=>some ⟨(ref20_Row N a1).isSome=true,.v (.c (.str ((ref20_Row N a1).getD default))),[],[]⟩
 | _=>none
theorem ok_ref20_Row(N:Nat):FnOK Tryz.prog gt0 24 (sp_ref20_Row N):=by
 refine fnOK_handed Tryz.func24 rfl (by kernel_rfl) tt_ok (ktNil) ?_
 intro args lk r h hp
 unfold sp_ref20_Row at h
 split at h
 .rename_i a1
  cases h
  obtain⟨x,hT⟩:=sX hp;clear hp
  simp only[hT,Option.getD_some]
  refine hand0 rfl rfl fun w0 M ε0 hX=>rCount fun hε => ?_
  unfold ref20_Row at hT
  refine zA hX ?_
  refine rSeq ?_
  let x1:=(bif(bif(decide (a1<(-2)))then true else(decide ((2:Int)<a1)))then true else(decide (a1=0)))
  refine zA hX ?_
  refine zCond rfl rfl (fun hc => ?_) (fun hc => ?_)
  .replace hT:=sT hc hT
   refine zA hX ?_
   refine rRet (rThenRet ?_)
   have hy:=sJ hT;subst hy
   exact zEnd0 hX rfl
  .replace hT:=sF hc hT
   refine rSkip (rThen (rSeq (rRegSL ?_)))
   replace hT:=sIf hT;obtain⟨⟨o1,o2,o3⟩,hT⟩:=hT
   refine rSLCut md0 4 hX rfl rfl rfl zP ?_
   refine rLstL 0 .str [⟨#[48,49]⟩,⟨#[48,48]⟩,⟨#[]⟩,⟨#[49,48]⟩,⟨#[49,49]⟩] rfl rfl rfl ?_
   replace hT:=sIf hT;obtain⟨o1,hT⟩:=hT
   let x2:=(([⟨#[48,49]⟩,⟨#[48,48]⟩,⟨#[]⟩,⟨#[49,48]⟩,⟨#[49,49]⟩]:List ByteArray).getD (a1+2).toNat ⟨#[]⟩)
   refine rSLDone md0 hX rfl rfl rfl zP ?_
   refine rThen (rRet ?_)
   have hy:=sJ hT;subst hy
   exact zEnd0 hX rfl
 .cases h
def ref21_Intra(N:Nat)(a1:Int):Option Bool:=
 some (bif(decide (a1=3))then true else(decide (a1=4)))
def sp_ref21_Intra(N:Nat):X.Spec:=fun args lk=>match args with
 | [.v (.c (.int .i64 a1))]=>some ⟨(ref21_Intra N a1).isSome=true,.v (.c (.bool ((ref21_Intra N a1).getD default))),[],[]⟩
 | _=>none
theorem ok_ref21_Intra(N:Nat):FnOK Tryz.prog gt0 8 (sp_ref21_Intra N):=by
 refine fnOK_handed Tryz.func8 rfl (by kernel_rfl) tt_ok (ktNil) ?_
 intro args lk r h hp
 unfold sp_ref21_Intra at h
 split at h
 .rename_i a1
  cases h
  obtain⟨x,hT⟩:=sX hp;clear hp
  simp only[hT,Option.getD_some]
  refine hand0 rfl rfl fun w0 M ε0 hX=>rCount fun hε => ?_
  unfold ref21_Intra at hT
  refine zA hX ?_
  refine zA hX ?_
  refine rRet ?_
  have hy:=sJ hT;subst hy
  exact zEnd0 hX rfl
 .cases h
def ref15_from(N:Nat)(a1:Bool):Option Int:=
 bif a1 then
  some 1
 else
  some 0
def sp_ref15_from(N:Nat):X.Spec:=fun args lk=>match args with
 | [.v (.c (.bool a1))]=>some ⟨(ref15_from N a1).isSome=true,.v (.c (.int .i64 ((ref15_from N a1).getD default))),[],[]⟩
 | _=>none
theorem ok_ref15_from(N:Nat):FnOK Tryz.prog gt0 53 (sp_ref15_from N):=by
 refine fnOK_handed Tryz.func53 rfl (by kernel_rfl) tt_ok (ktNil) ?_
 intro args lk r h hp
 unfold sp_ref15_from at h
 split at h
 .rename_i a1
  cases h
  obtain⟨x,hT⟩:=sX hp;clear hp
  simp only[hT,Option.getD_some]
  refine hand0 rfl rfl fun w0 M ε0 hX=>rCount fun hε => ?_
  unfold ref15_from at hT
  refine zA hX ?_
  refine rSeq (zA hX ?_)
  refine zCond rfl rfl (fun hc => ?_) (fun hc => ?_)
  .replace hT:=sT hc hT
   refine zA hX ?_
   refine rRet (rThenRet ?_)
   have hy:=sJ hT;subst hy
   exact zEnd0 hX rfl
  .replace hT:=sF hc hT
   refine rSkip (rThen (zA hX ?_))
   refine rRet ?_
   have hy:=sJ hT;subst hy
   exact zEnd0 hX rfl
 .cases h
def ref09_Right(N:Nat)(a1:Bool)(a2:Int)(a3:Int):Option Bool:=
 let x1:=(bif(bif(bif(bif(decide ((0:Int)<=a2))then(decide (a2<=63))else false)then(decide (((-127):Int)<=a3))else false)then(decide (a3<=127))else false)then(decide (a3≠0))else false)
 some x1
def sp_ref09_Right(N:Nat):X.Spec:=fun args lk=>match args with
 | [.v (.agg [.cs [.bool a1,.int .i64 a2,.int .i64 a3]])]=>some ⟨(ref09_Right N a1 a2 a3).isSome=true,.v (.c (.bool ((ref09_Right N a1 a2 a3).getD default))),[],[]⟩
 | _=>none
theorem ok_ref09_Right(N:Nat):FnOK Tryz.prog gt0 84 (sp_ref09_Right N):=by
 refine fnOK_handed Tryz.func84 rfl (by kernel_rfl) tt_ok (ktNil) ?_
 intro args lk r h hp
 unfold sp_ref09_Right at h
 split at h
 .rename_i a1 a2 a3
  cases h
  obtain⟨x,hT⟩:=sX hp;clear hp
  simp only[hT,Option.getD_some]
  refine hand0 rfl rfl fun w0 M ε0 hX=>rCount fun hε => ?_
  unfold ref09_Right at hT
  refine zA hX ?_
  let x1:=(bif(bif(bif(bif(decide ((0:Int)<=a2))then(decide (a2<=63))else false)then(decide (((-127):Int)<=a3))else false)then(decide (a3<=127))else false)then(decide (a3≠0))else false)
  refine zA hX ?_
  refine rRet ?_
  have hy:=sJ hT;subst hy
  exact zEnd0 hX rfl
 .cases h
def ref10_Levels_b1(N:Nat)(a1:Zt3)(s1:Zt8):Option (Zt8⊕(Unit⊕(List Int))):=
 bif(decide (s1.2.1<(a1.length:Int)))then
  let c1:=(ref09_Right N (a1.getD (s1.2.1).toNat Zd1).1 (a1.getD (s1.2.1).toNat Zd1).2.1 (a1.getD (s1.2.1).toNat Zd1).2.2)
  let x2:=(bif(!(c1.getD default))then true else(!((a1.getD (s1.2.1).toNat Zd1).1==(decide ((s1.2.1+1)=(a1.length:Int))))))
  if(0:Int)<=s1.2.1/\s1.2.1<(a1.length:Int)/\c1.isSome=true/\((!(!(c1.getD default)))=true->(0:Int)<=s1.2.1)/\((!(!(c1.getD default)))=true->s1.2.1<(a1.length:Int))/\((!(!(c1.getD default)))=true->inK .i64 (s1.2.1+1))then
   bif x2 then
    some (.inr (Sum.inl ()))
   else
    if(0:Int)<=s1.2.1/\s1.2.1<(a1.length:Int)/\inK .i64 (s1.1+(a1.getD (s1.2.1).toNat Zd1).2.1)/\inK .i64 ((s1.1+(a1.getD (s1.2.1).toNat Zd1).2.1)+1)then
     let x3:=(decide ((63:Int)<((s1.1+(a1.getD (s1.2.1).toNat Zd1).2.1)+1)))
     bif x3 then
      some (.inr (Sum.inl ()))
     else
      let x4:=(s1.2.2.set ((s1.1+(a1.getD (s1.2.1).toNat Zd1).2.1)+1).toNat (a1.getD (s1.2.1).toNat Zd1).2.2)
      if(0:Int)<=s1.2.1/\s1.2.1<(a1.length:Int)/\(0:Int)<=((s1.1+(a1.getD (s1.2.1).toNat Zd1).2.1)+1)/\((s1.1+(a1.getD (s1.2.1).toNat Zd1).2.1)+1)<64/\((s1.1+(a1.getD (s1.2.1).toNat Zd1).2.1)+1).toNat<64 then
       if inK .i64 (s1.2.1+1)then
        some (.inl (((s1.1+(a1.getD (s1.2.1).toNat Zd1).2.1)+1),(s1.2.1+1),x4))
       else none
      else none
    else none
  else none
 else
  some (.inr (Sum.inr s1.2.2))
def ref10_Levels(N:Nat)(a1:Zt3)(a2:Int):Option ((List Int)×Int):=
 bif(bif(decide (a2<0))then true else(decide ((1:Int)<a2)))then
  some ((List.replicate 64 0),1)
 else
  if inK .i64 (a2-1)then
   (iter (ref10_Levels_b1 N a1) N ((a2-1),0,(List.replicate 64 0))).bind fun w1=>
    (Sum.elim (fun v1=>
     some ((List.replicate 64 0),7)
    )
     (fun v2=>
      some (v2,0)
     )
    ) w1
  else none
def sp_ref10_Levels(N:Nat):X.Spec:=fun args lk=>match args with
 | [.v (.c (.fz (.pair .bool (.pair (.int .i64) (.int .i64))) a1)),.v (.c (.int .i64 a2))]=>some ⟨(ref10_Levels N a1 a2).isSome=true,.tup [.agg [.ints 64 .i64 ((ref10_Levels N a1 a2).getD default).1],.c (.int .i64 ((ref10_Levels N a1 a2).getD default).2)],[],[]⟩
 | _=>none
theorem ok_ref10_Levels(N:Nat):FnOK Tryz.prog gt0 52 (sp_ref10_Levels N):=by
 refine fnOK_handed Tryz.func52 rfl (by kernel_rfl) tt_ok (ktCons (ok_ref09_Right N) (ktNil)) ?_
 intro args lk r h hp
 unfold sp_ref10_Levels at h
 split at h
 .rename_i a1 a2
  change Zt3 at a1
  cases h
  obtain⟨x,hT⟩:=sX hp;clear hp
  simp only[hT,Option.getD_some]
  refine hand0 rfl rfl fun w0 M ε0 hX=>rCount fun hε => ?_
  unfold ref10_Levels at hT
  refine zA hX ?_
  refine zA hX ?_
  refine rSeq (zA hX ?_)
  refine zCond rfl rfl (fun hc => ?_) (fun hc => ?_)
  .replace hT:=sT hc hT
   refine zA hX ?_
   refine rRet (rThenRet ?_)
   have hy:=sJ hT;subst hy
   exact zEnd0 hX rfl
  .replace hT:=sF hc hT
   refine rSkip (rThen ?_)
   replace hT:=sIf hT;obtain⟨o1,hT⟩:=hT
   refine zA hX ?_
   refine rSeq (zA hX ?_)
   refine rBlock ?_
   replace hT:=sBind hT;obtain⟨w1,hl,hT⟩:=hT
   refine rJoinA (fun v1=>(Sum.inl v1)=w1) (fun v1=>⟨[(4,.v (.c (.ptr 0 0 0 0 0 0))),(5,.v (.c (.int .i64 7)))],[(0,.mem true 62 none (.flat [.ints 64 .i64 (List.replicate 64 0)]))],2⟩) .ret (fun v1 hv => ?_) (fun hxs10 => ?_)
   .subst hv;clear hl;replace hT:=(sElimL hT)
    refine rInRet (rThenRet ?_)
    have hy:=sJ hT;subst hy
    exact zEnd0 hX rfl
   refine rJoinA (fun v2=>(Sum.inr v2)=w1) (fun v2=>⟨[(4,.v (.c (.ptr 0 0 0 0 0 0))),(5,.v (.c (.int .i64 0))),(6,.v (.c (.ptr 1 0 0 0 0 0)))],[(0,.mem true 62 none (.flat [.ints 64 .i64 (List.replicate 64 0)])),(1,.mem true 62 none (.flat [.ints 64 .i64 v2]))],2⟩) (.exit 0) (fun v2 hv => ?_) (fun hxs11 => ?_)
   .subst hv;clear hl;replace hT:=(sElimR hT)
    refine rInHit (rThen (zA hX ?_))
    refine rRet ?_
    have hy:=sJ hT;subst hy
    exact zEnd0 hX rfl
   refine rLoopM (ref10_Levels_b1 N a1) (fun s1=>⟨[(0,.v (.c (.fz Zs1 a1))),(4,.v (.c (.ptr 0 0 0 0 0 0))),(5,.v (.c (.int .i64 0))),(6,.v (.c (.ptr 1 0 0 0 0 0))),(7,.v (.c (.int .i64 s1.1))),(8,.v (.c (.int .i64 s1.2.1)))],[(0,.mem true 62 none (.flat [.ints 64 .i64 (List.replicate 64 0)])),(1,.mem true 62 none (.flat [.ints 64 .i64 s1.2.2]))],2⟩) hl (To.mk' [] 0 hε rfl zL zL) (fun s1 zs1 NNs1 hz hnexts1 houts1 => ?_)
   clear hl hT
   have hT:=hz;clear hz
   refine rSeq (zA hX ?_)
   refine zCond rfl rfl (fun hc => ?_) (fun hc => ?_)
   .replace hT:=sT hc hT
    refine rSkip (rThen (rSeq (rBlock (rSeq ?_))))
    let c1:=(ref09_Right N (a1.getD (s1.2.1).toNat Zd1).1 (a1.getD (s1.2.1).toNat Zd1).2.1 (a1.getD (s1.2.1).toNat Zd1).2.2)
    let x2:=(bif(!(c1.getD default))then true else(!((a1.getD (s1.2.1).toNat Zd1).1==(decide ((s1.2.1+1)=(a1.length:Int))))))
    replace hT:=sIf hT;obtain⟨⟨o1,o2,o3,o4,o5,o6⟩,hT⟩:=hT
    refine rSeq (rRegC md0 hX rfl rfl rfl zO ?_)
    refine rThen ?_
    refine zCond rfl rfl (fun hc => ?_) (fun hc => ?_)
    .replace hT:=sT hc hT
     refine zA hX ?_
     refine rRet (rThenRet (rInRet (rThenRet (rThenRet ?_))))
     exact zTo [] 0 hε (hxs10 _ (houts1 _ (sJ hT).symm))
    .replace hT:=sF hc hT
     refine rSkip (rThen ?_)
     replace hT:=sIf hT;obtain⟨⟨o1,o2,o3,o4⟩,hT⟩:=hT
     refine zA hX ?_
     refine rSeq ?_
     let x3:=(decide ((63:Int)<((s1.1+(a1.getD (s1.2.1).toNat Zd1).2.1)+1)))
     refine zA hX ?_
     refine zCond rfl rfl (fun hc => ?_) (fun hc => ?_)
     .replace hT:=sT hc hT
      refine zA hX ?_
      refine rRet (rThenRet (rInRet (rThenRet (rThenRet ?_))))
      exact zTo [] 0 hε (hxs10 _ (houts1 _ (sJ hT).symm))
     .replace hT:=sF hc hT
      refine rSkip (rThen ?_)
      let x4:=(s1.2.2.set ((s1.1+(a1.getD (s1.2.1).toNat Zd1).2.1)+1).toNat (a1.getD (s1.2.1).toNat Zd1).2.2)
      replace hT:=sIf hT;obtain⟨⟨o1,o2,o3,o4,o5⟩,hT⟩:=hT
      refine zReg md0 hX rfl rfl rfl ?_
      refine rInNormal (rThen ?_)
      replace hT:=sIf hT;obtain⟨o1,hT⟩:=hT
      refine zReg md0 hX rfl rfl rfl ?_
      exact hnexts1 _ (sJ hT).symm _ (To.mk' [] 0 hε rfl zL zL)
   .replace hT:=sF hc hT
    refine rExit (rThenExit (rThenExit ?_))
    exact zTo [] 0 hε (hxs11 _ (houts1 _ (sJ hT).symm))
 .cases h
def ref15_May(N:Nat)(a1:Bool)(a2:Int)(a3:Zt3):Option Bool:=
 let c1:=(ref15_from N a1)
 let c2:=(ref10_Levels N a3 (c1.getD default))
 if c1.isSome=true/\c2.isSome=true then
  bif a1 then
   let x1:=(bif(bif(decide ((c2.getD default).2=0))then(decide ((1:Int)<=a2))else false)then(decide (a2<=254))else false)
   some x1
  else
   some (bif(decide ((c2.getD default).2=0))then(decide (a2=0))else false)
 else none
def sp_ref15_May(N:Nat):X.Spec:=fun args lk=>match args with
 | [.v (.c (.bool a1)),.v (.c (.int .i64 a2)),.v (.c (.fz (.pair .bool (.pair (.int .i64) (.int .i64))) a3))]=>some ⟨(ref15_May N a1 a2 a3).isSome=true,.v (.c (.bool ((ref15_May N a1 a2 a3).getD default))),[],[]⟩
 | _=>none
theorem ok_ref15_May(N:Nat):FnOK Tryz.prog gt0 25 (sp_ref15_May N):=by
 refine fnOK_handed Tryz.func25 rfl (by kernel_rfl) tt_ok (ktCons (ok_ref10_Levels N) (ktCons (ok_ref15_from N) (ktNil))) ?_
 intro args lk r h hp
 unfold sp_ref15_May at h
 split at h
 .rename_i a1 a2 a3
  change Zt3 at a3
  cases h
  obtain⟨x,hT⟩:=sX hp;clear hp
  simp only[hT,Option.getD_some]
  refine hand0 rfl rfl fun w0 M ε0 hX=>rCount fun hε => ?_
  unfold ref15_May at hT
  refine zA hX ?_
  let c1:=(ref15_from N a1)
  let c2:=(ref10_Levels N a3 (c1.getD default))
  replace hT:=sIf hT;obtain⟨⟨o1,o2⟩,hT⟩:=hT
  refine zA hX ?_
  refine rSeq (zA hX ?_)
  refine zCond rfl rfl (fun hc => ?_) (fun hc => ?_)
  .replace hT:=sT hc hT
   let x1:=(bif(bif(decide ((c2.getD default).2=0))then(decide ((1:Int)<=a2))else false)then(decide (a2<=254))else false)
   refine zA hX ?_
   refine rRet (rThenRet ?_)
   have hy:=sJ hT;subst hy
   exact zEnd0 hX rfl
  .replace hT:=sF hc hT
   refine rSkip (rThen (zA hX ?_))
   refine rRet ?_
   have hy:=sJ hT;subst hy
   exact zEnd0 hX rfl
 .cases h
end Go.Proofs.YtnpokkaalcfbfaaGreatDoor
