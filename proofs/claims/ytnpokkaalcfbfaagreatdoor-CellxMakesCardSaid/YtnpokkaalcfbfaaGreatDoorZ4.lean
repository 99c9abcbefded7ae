/- Models of functions, and that the program does what they tell. -/
import Derived.Test.YtnpokkaalcfbfaaGreatDoorZ3
set_option linter.unusedVariables false
set_option linter.unusedSimpArgs false
namespace Go.Proofs.YtnpokkaalcfbfaaGreatDoor
open Go.X
set_option maxRecDepth 100000
set_option maxHeartbeats 1000000
def ref35_Block_b1(N:Nat)(c1:(Option Int))(x1:(List Int)) (s1:(Int×(List Int)×(List Int))):Option ((Int×(List Int)×(List Int))⊕((List Int)×(List Int))):=
 bif(decide (s1.1<64))then
  let c7:=(ref01_Clip N (s1.2.1.getD (s1.1).toNat 0) (-127) 127)
  if(0:Int)<=s1.1/\s1.1<64/\(s1.1).toNat<64/\c7.isSome=true then
   let c8:=(ref12_Value N ((s1.2.1.set (s1.1).toNat (c7.getD default)).getD (s1.1).toNat 0) (c1.getD default))
   if(0:Int)<=s1.1/\s1.1<64/\(s1.1).toNat<64/\c8.isSome=true then
    let x4:=((s1.2.2.set (s1.1).toNat (c8.getD default)).set (s1.1).toNat (((s1.2.2.set (s1.1).toNat (c8.getD default)).getD (s1.1).toNat 0)+(x1.getD (s1.1).toNat 0)))
    if(0:Int)<=s1.1/\s1.1<64/\(s1.1).toNat<64/\inK .i64 (((s1.2.2.set (s1.1).toNat (c8.getD default)).getD (s1.1).toNat 0)+(x1.getD (s1.1).toNat 0))then
     if inK .i64 (s1.1+1)then
      some (.inl ((s1.1+1),(s1.2.1.set (s1.1).toNat (c7.getD default)),x4))
     else none
    else none
   else none
  else none
 else
  some (.inr (s1.2.1,s1.2.2))
def ref35_Block(N:Nat)(a1:(List Int))(a2:(List Int))(a3:Int)(a4:Int)(a5:Bool):Option (List Int):=
 let c1:=(ref01_Clip N a3 1 31)
 if c1.isSome=true then
  let c2:=(ref01_Clip N a4 1 31)
  if c2.isSome=true then
   let c3:=(ref35_nought N a2)
   if((!a5)=true->c3.isSome=true)then
    let c4:=(ref14_Forward N a2)
    if((bif(!a5)then(!(c3.getD default))else false)=true->c4.isSome=true)then
     let x1:(List Int):=(bif(bif(!a5)then(!(c3.getD default))else false)then(c4.getD default)else(List.replicate 64 0))
     (iter (ref35_Block_b1 N c1 x1) N (0,a1,(List.replicate 64 0))).bind fun v1=>
      let c5:=(ref35_nought N a2)
      let x2:=(bif(decide ((c1.getD default)=(c2.getD default)))then(bif a5 then true else(c5.getD default))else false)
      if(((decide ((c1.getD default)=(c2.getD default)))&&(!a5))=true->c5.isSome=true)/\((decide ((c1.getD default)=(c2.getD default)))=true->(a5=false->((decide ((c1.getD default)=(c2.getD default)))&&(!a5))=true))then
       bif x2 then
        some (bif a5 then(v1.1.set 0 0)else v1.1)
       else
        let c6:=(ref13_Block N v1.2 (c2.getD default) a5)
        if c6.isSome=true then
         some (c6.getD default)
        else none
      else none
    else none
   else none
  else none
 else none
def sp_ref35_Block(N:Nat):X.Spec:=fun args lk=>match args with
 | [.v (.agg [.ints 64 .i64 a1]),.v (.agg [.ints 64 .i64 a2]),.v (.c (.int .i64 a3)),.v (.c (.int .i64 a4)),.v (.c (.bool a5))]=>some ⟨(ref35_Block N a1 a2 a3 a4 a5).isSome=true,.v (.agg [.ints 64 .i64 ((ref35_Block N a1 a2 a3 a4 a5).getD default)]),[],[]⟩
 | _=>none
theorem ok_ref35_Block(N:Nat):FnOK Tryz.prog gt0 60 (sp_ref35_Block N):=by
 refine fnOK_handed Tryz.func60 rfl (by kernel_rfl) tt_ok (ktCons (ok_ref12_Value N) (ktCons (ok_ref13_Block N) (ktCons (ok_ref14_Forward N) (ktCons (ok_ref35_nought N) (ktCons (ok_ref01_Clip N) (ktNil)))))) ?_
 intro args lk r h hp
 unfold sp_ref35_Block at h
 split at h
 .rename_i a1 a2 a3 a4 a5
  change (List Int)at a1
  change (List Int)at a2
  cases h
  obtain⟨x,hT⟩:=sX hp;clear hp
  simp only[hT,Option.getD_some]
  refine hand0 rfl rfl fun w0 M ε0 hX=>rCount fun hε => ?_
  unfold ref35_Block at hT
  refine zA hX ?_
  let c1:=(ref01_Clip N a3 1 31)
  replace hT:=sIf hT;obtain⟨o1,hT⟩:=hT
  refine zA hX ?_
  let c2:=(ref01_Clip N a4 1 31)
  replace hT:=sIf hT;obtain⟨o1,hT⟩:=hT
  refine zA hX ?_
  refine zA hX ?_
  refine zA hX ?_
  refine rSeq ?_
  let c3:=(ref35_nought N a2)
  replace hT:=sIf hT;obtain⟨o1,hT⟩:=hT
  refine rSeq (rRegC md0 hX rfl rfl rfl zO ?_)
  refine rThen ?_
  let c4:=(ref14_Forward N a2)
  replace hT:=sIf hT;obtain⟨q1,hT⟩:=hT
  refine rJoin ⟨[(2,.v (.c (.int .i64 (c1.getD default)))),(3,.v (.c (.int .i64 (c2.getD default)))),(4,.v (.c (.bool a5))),(5,.v (.c (.ptr 0 0 0 0 0 0))),(6,.v (.c (.ptr 1 0 0 0 0 0))),(10,.v (.c (.ptr 2 0 0 0 0 0))),(11,.v (.c (.ptr 3 0 0 0 0 0))),(12,.v (.c (.ptr 4 0 0 0 0 0)))],[(0,.mem true 62 none (.flat [.ints 64 .i64 a1])),(1,.mem true 62 none (.flat [.ints 64 .i64 a2])),(2,.mem true 62 none (.flat [.ints 64 .i64 (List.replicate 64 0)])),(3,.mem true 62 none (.flat [.ints 64 .i64 (List.replicate 64 0)])),(4,.mem true 62 none (.flat [.ints 64 .i64 (bif(bif(!a5)then(!(c3.getD default))else false)then(c4.getD default)else(List.replicate 64 0))]))],5⟩ ?_ (fun hj => ?_)
  .let x1:(List Int):=(bif(bif(!a5)then(!(c3.getD default))else false)then(c4.getD default)else(List.replicate 64 0))
   refine rThen (rSeq (zA hX ?_))
   refine rBlock ?_
   replace hT:=sBind hT;obtain⟨w1,hl,hT⟩:=hT
   refine rJoinA (fun v1=>v1=w1) (fun v1=>⟨[(2,.v (.c (.int .i64 (c1.getD default)))),(3,.v (.c (.int .i64 (c2.getD default)))),(4,.v (.c (.bool a5))),(5,.v (.c (.ptr 0 0 0 0 0 0))),(6,.v (.c (.ptr 1 0 0 0 0 0))),(10,.v (.c (.ptr 2 0 0 0 0 0))),(11,.v (.c (.ptr 3 0 0 0 0 0)))],[(0,.mem true 62 none (.flat [.ints 64 .i64 v1.1])),(1,.mem true 62 none (.flat [.ints 64 .i64 a2])),(2,.mem true 62 none (.flat [.ints 64 .i64 (List.replicate 64 0)])),(3,.mem true 62 none (.flat [.ints 64 .i64 v1.2]))],5⟩) (.exit 0) (fun v1 hv => ?_) (fun hxs10 => ?_)
   .subst hv;clear hl
    refine rInHit (rThen (rSeq (zA hX ?_)))
    refine rJoin ⟨[(2,.v (.c (.int .i64 (c1.getD default)))),(3,.v (.c (.int .i64 (c2.getD default)))),(4,.v (.c (.bool a5))),(5,.v (.c (.ptr 0 0 0 0 0 0))),(6,.v (.c (.ptr 1 0 0 0 0 0))),(10,.v (.c (.ptr 2 0 0 0 0 0))),(11,.v (.c (.ptr 3 0 0 0 0 0)))],[(0,.mem true 62 none (.flat [.ints 64 .i64 (bif a5 then(v1.1.set 0 0)else v1.1)])),(1,.mem true 62 none (.flat [.ints 64 .i64 a2])),(2,.mem true 62 none (.flat [.ints 64 .i64 (List.replicate 64 0)])),(3,.mem true 62 none (.flat [.ints 64 .i64 v1.2]))],5⟩ ?_ (fun hj => ?_)
    .refine rThen (rSeq ?_)
     let c5:=(ref35_nought N a2)
     let x2:=(bif(decide ((c1.getD default)=(c2.getD default)))then(bif a5 then true else(c5.getD default))else false)
     replace hT:=sIf hT;obtain⟨⟨o1,o2⟩,hT⟩:=hT
     refine rSeq (rRegC md0 hX rfl rfl rfl zO ?_)
     refine rThen ?_
     refine zCond rfl rfl (fun hc => ?_) (fun hc => ?_)
     .replace hT:=sT hc hT
      refine zA hX ?_
      refine rRet (rThenRet ?_)
      have hy:=sJ hT;subst hy
      exact zEnd0 hX rfl
     .replace hT:=sF hc hT
      refine rSkip (rThen ?_)
      let c6:=(ref13_Block N v1.2 (c2.getD default) a5)
      replace hT:=sIf hT;obtain⟨o1,hT⟩:=hT
      refine zA hX ?_
      refine rRet ?_
      have hy:=sJ hT;subst hy
      exact zEnd0 hX rfl
    .clear hT
     refine zCond rfl rfl (fun hc => ?_) (fun hc => ?_)
     .refine zReg md0 hX rfl rfl rfl ?_
      exact rTo (To.mk' [] 0 hε rfl zJ zJ) hj
     .refine rSkip ?_
      exact rTo (To.mk' [] 0 hε rfl zJ zJ) hj
   refine rLoopM (ref35_Block_b1 N c1 x1) (fun s1=>⟨[(2,.v (.c (.int .i64 (c1.getD default)))),(3,.v (.c (.int .i64 (c2.getD default)))),(4,.v (.c (.bool a5))),(5,.v (.c (.ptr 0 0 0 0 0 0))),(6,.v (.c (.ptr 1 0 0 0 0 0))),(10,.v (.c (.ptr 2 0 0 0 0 0))),(11,.v (.c (.ptr 3 0 0 0 0 0))),(12,.v (.c (.ptr 4 0 0 0 0 0))),(13,.v (.c (.int .i64 s1.1)))],[(0,.mem true 62 none (.flat [.ints 64 .i64 s1.2.1])),(1,.mem true 62 none (.flat [.ints 64 .i64 a2])),(2,.mem true 62 none (.flat [.ints 64 .i64 (List.replicate 64 0)])),(3,.mem true 62 none (.flat [.ints 64 .i64 s1.2.2])),(4,.mem true 62 none (.flat [.ints 64 .i64 x1]))],5⟩) hl (To.mk' [] 0 hε rfl zL zL) (fun s1 zs1 NNs1 hz hnexts1 houts1 => ?_)
   clear hl hT
   have hT:=hz;clear hz
   refine rSeq (zA hX ?_)
   refine zCond rfl rfl (fun hc => ?_) (fun hc => ?_)
   .replace hT:=sT hc hT
    refine rSkip (rThen (rSeq (rBlock ?_)))
    let c7:=(ref01_Clip N (s1.2.1.getD (s1.1).toNat 0) (-127) 127)
    replace hT:=sIf hT;obtain⟨⟨o1,o2,o3,o4⟩,hT⟩:=hT
    refine zA hX ?_
    let c8:=(ref12_Value N ((s1.2.1.set (s1.1).toNat (c7.getD default)).getD (s1.1).toNat 0) (c1.getD default))
    replace hT:=sIf hT;obtain⟨⟨o1,o2,o3,o4⟩,hT⟩:=hT
    refine zA hX ?_
    let x4:=((s1.2.2.set (s1.1).toNat (c8.getD default)).set (s1.1).toNat (((s1.2.2.set (s1.1).toNat (c8.getD default)).getD (s1.1).toNat 0)+(x1.getD (s1.1).toNat 0)))
    replace hT:=sIf hT;obtain⟨⟨o1,o2,o3,o4⟩,hT⟩:=hT
    refine zDraw md0 1 [9] hX mixed rfl rfl rfl rfl rfl ?_
    refine rInNormal (rThen ?_)
    replace hT:=sIf hT;obtain⟨o1,hT⟩:=hT
    refine zReg md0 hX rfl rfl rfl ?_
    exact hnexts1 _ (sJ hT).symm _ (To.mk' [] 0 hε rfl zL zL)
   .replace hT:=sF hc hT
    refine rExit (rThenExit (rThenExit ?_))
    exact zTo [] 0 hε (hxs10 _ (houts1 _ (sJ hT).symm))
  .clear hT
   refine zCond rfl rfl (fun hc => ?_) (fun hc => ?_)
   .have q1:=q1 hc
    refine zReg md0 hX rfl rfl rfl ?_
    exact rTo (To.mk' [] 0 hε rfl zJ zJ) hj
   .refine rSkip ?_
    exact rTo (To.mk' [] 0 hε rfl zJ zJ) hj
 .cases h
def ref35_Cell_b1(N:Nat)(a3:Int)(a8:(List Int))(a9:Int)(a10:Int) (c1:(Option (List Int))) (s1:(Int×(List Int))):Option ((Int×(List Int))⊕(List Int)):=
 bif(decide (s1.1<6))then
  let c2:=(ref21_Intra N a3)
  let c3:=(ref35_Block N (((c1.getD default).drop (64*(s1.1).toNat)).take 64) ((a8.drop (64*(s1.1).toNat)).take 64) a9 a10 (c2.getD default))
  if(0:Int)<=s1.1/\s1.1<6/\(64*(s1.1).toNat)+64<=384/\c2.isSome=true/\c3.isSome=true then
   if inK .i64 (s1.1+1)then
    some (.inl ((s1.1+1),(layL s1.2 (64*(s1.1).toNat) (c3.getD default) 64)))
   else none
  else none
 else
  some (.inr s1.2)
def ref35_Cell(N:Nat)(a1:Int)(a2:Bool)(a3:Int)(a4:Int)(a5:(List Int))(a6:(List Int))(a7:Zt1)(a8:(List Int))(a9:Int)(a10:Int):Option (List Int):=
 let c1:=(ref29_Levels N a1 a2 a3 a4 a5 a6 a7)
 if c1.isSome=true then
  (iter (ref35_Cell_b1 N a3 a8 a9 a10 c1) N (0,(List.replicate 384 0))).bind fun v1=>
   some v1
 else none
def sp_ref35_Cell(N:Nat):X.Spec:=fun args lk=>match args with
 | [.v (.agg [.cs [.int .i64 a1,.bool a2,.int .i64 a3,.int .i64 a4],.ints 2 .i64 a5,.ints 6 .i64 a6,.fzs 6 (.pair .bool (.pair (.int .i64) (.int .i64))) a7]),.v (.agg [.ints 384 .i64 a8]),.v (.c (.int .i64 a9)),.v (.c (.int .i64 a10))]=>some ⟨(ref35_Cell N a1 a2 a3 a4 a5 a6 a7 a8 a9 a10).isSome=true,.v (.agg [.ints 384 .i64 ((ref35_Cell N a1 a2 a3 a4 a5 a6 a7 a8 a9 a10).getD default)]),[],[]⟩
 | _=>none
theorem ok_ref35_Cell(N:Nat):FnOK Tryz.prog gt0 34 (sp_ref35_Cell N):=by
 refine fnOK_handed Tryz.func34 rfl (by kernel_rfl) tt_ok (ktCons (ok_ref35_Block N) (ktCons (ok_ref21_Intra N) (ktCons (ok_ref29_Levels N) (ktNil)))) ?_
 intro args lk r h hp
 unfold sp_ref35_Cell at h
 split at h
 .rename_i a1 a2 a3 a4 a5 a6 a7 a8 a9 a10
  change (List Int)at a5
  change (List Int)at a6
  change Zt1 at a7
  change (List Int)at a8
  cases h
  obtain⟨x,hT⟩:=sX hp;clear hp
  simp only[hT,Option.getD_some]
  refine hand0 rfl rfl fun w0 M ε0 hX=>rCount fun hε => ?_
  unfold ref35_Cell at hT
  refine zA hX ?_
  let c1:=(ref29_Levels N a1 a2 a3 a4 a5 a6 a7)
  replace hT:=sIf hT;obtain⟨o1,hT⟩:=hT
  refine zA hX ?_
  refine zA hX ?_
  refine rSeq (zA hX ?_)
  refine rBlock ?_
  replace hT:=sBind hT;obtain⟨w1,hl,hT⟩:=hT
  refine rJoinA (fun v1=>v1=w1) (fun v1=>⟨[(8,.v (.c (.ptr 2 0 0 0 0 0))),(10,.v (.c (.ptr 4 0 0 0 0 0)))],[(2,.mem true 64 none (.flat [.ints 384 .i64 (List.replicate 384 0)])),(4,.mem true 64 none (.flat [.ints 384 .i64 v1]))],5⟩) (.exit 0) (fun v1 hv => ?_) (fun hxs10 => ?_)
  .subst hv;clear hl
   refine rInHit (rThen (zA hX ?_))
   refine rRet ?_
   have hy:=sJ hT;subst hy
   exact zEnd0 hX rfl
  refine rLoopM (ref35_Cell_b1 N a3 a8 a9 a10 c1) (fun s1=>⟨[(2,.v (.c (.int .i64 a9))),(3,.v (.c (.int .i64 a10))),(4,.v (.c (.ptr 0 0 0 0 0 0))),(5,.v (.c (.ptr 1 0 0 0 0 0))),(8,.v (.c (.ptr 2 0 0 0 0 0))),(9,.v (.c (.ptr 3 0 0 0 0 0))),(10,.v (.c (.ptr 4 0 0 0 0 0))),(11,.v (.c (.int .i64 s1.1)))],[(0,.mem true 35 none (.flat [.cs [.int .i64 a1,.bool a2,.int .i64 a3,.int .i64 a4],.ints 2 .i64 a5,.ints 6 .i64 a6,.fzs 6 Zs1 a7])),(1,.mem true 64 none (.flat [.ints 384 .i64 a8])),(2,.mem true 64 none (.flat [.ints 384 .i64 (List.replicate 384 0)])),(3,.mem true 64 none (.flat [.ints 384 .i64 (c1.getD default)])),(4,.mem true 64 none (.flat [.ints 384 .i64 s1.2]))],5⟩) hl (To.mk' [] 0 hε rfl zL zL) (fun s1 zs1 NNs1 hz hnexts1 houts1 => ?_)
  clear hl hT
  have hT:=hz;clear hz
  refine rSeq (zA hX ?_)
  refine zCond rfl rfl (fun hc => ?_) (fun hc => ?_)
  .replace hT:=sT hc hT
   refine rSkip (rThen (rSeq (rBlock ?_)))
   let c2:=(ref21_Intra N a3)
   let c3:=(ref35_Block N (((c1.getD default).drop (64*(s1.1).toNat)).take 64) ((a8.drop (64*(s1.1).toNat)).take 64) a9 a10 (c2.getD default))
   replace hT:=sIf hT;obtain⟨⟨o1,o2,o3,o4,o5⟩,hT⟩:=hT
   refine zDraw md0 1 [14] hX mixed rfl rfl rfl rfl rfl ?_
   refine rInNormal (rThen ?_)
   replace hT:=sIf hT;obtain⟨o1,hT⟩:=hT
   refine zReg md0 hX rfl rfl rfl ?_
   exact hnexts1 _ (sJ hT).symm _ (To.mk' [] 0 hε rfl zL zL)
  .replace hT:=sF hc hT
   refine rExit (rThenExit (rThenExit ?_))
   exact zTo [] 0 hε (hxs10 _ (houts1 _ (sJ hT).symm))
 .cases h
def ref11_Told_b1(N:Nat)(a1:(List Int)) (c1:(Option (List Int))) (s1:(Int×(List Int))):Option ((Int×(List Int))⊕(List Int)):=
 bif(decide (s1.1<64))then
  if(0:Int)<=s1.1/\s1.1<64/\(s1.1).toNat<64/\(0:Int)<=((c1.getD default).getD (s1.1).toNat 0)/\((c1.getD default).getD (s1.1).toNat 0)<64/\((c1.getD default).getD (s1.1).toNat 0).toNat<64 then
   if inK .i64 (s1.1+1)then
    some (.inl ((s1.1+1),(s1.2.set (s1.1).toNat (a1.getD ((c1.getD default).getD (s1.1).toNat 0).toNat 0))))
   else none
  else none
 else
  some (.inr s1.2)
def ref11_Told(N:Nat)(a1:(List Int)):Option (List Int):=
 let c1:=(ref11_Order N)
 if c1.isSome=true then
  (iter (ref11_Told_b1 N a1 c1) N (0,(List.replicate 64 0))).bind fun v1=>
   some v1
 else none
def sp_ref11_Told(N:Nat):X.Spec:=fun args lk=>match args with
 | [.v (.agg [.ints 64 .i64 a1])]=>some ⟨(ref11_Told N a1).isSome=true,.v (.agg [.ints 64 .i64 ((ref11_Told N a1).getD default)]),[],[]⟩
 | _=>none
theorem ok_ref11_Told(N:Nat):FnOK Tryz.prog gt0 57 (sp_ref11_Told N):=by
 refine fnOK_handed Tryz.func57 rfl (by kernel_rfl) tt_ok (ktCons (ok_ref11_Order N) (ktNil)) ?_
 intro args lk r h hp
 unfold sp_ref11_Told at h
 split at h
 .rename_i a1
  change (List Int)at a1
  cases h
  obtain⟨x,hT⟩:=sX hp;clear hp
  simp only[hT,Option.getD_some]
  refine hand0 rfl rfl fun w0 M ε0 hX=>rCount fun hε => ?_
  unfold ref11_Told at hT
  refine zA hX ?_
  let c1:=(ref11_Order N)
  replace hT:=sIf hT;obtain⟨o1,hT⟩:=hT
  refine zA hX ?_
  refine zA hX ?_
  refine rSeq (zA hX ?_)
  refine rBlock ?_
  replace hT:=sBind hT;obtain⟨w1,hl,hT⟩:=hT
  refine rJoinA (fun v1=>v1=w1) (fun v1=>⟨[(2,.v (.c (.ptr 1 0 0 0 0 0))),(4,.v (.c (.ptr 3 0 0 0 0 0)))],[(1,.mem true 62 none (.flat [.ints 64 .i64 (List.replicate 64 0)])),(3,.mem true 62 none (.flat [.ints 64 .i64 v1]))],4⟩) (.exit 0) (fun v1 hv => ?_) (fun hxs10 => ?_)
  .subst hv;clear hl
   refine rInHit (rThen (zA hX ?_))
   refine rRet ?_
   have hy:=sJ hT;subst hy
   exact zEnd0 hX rfl
  refine rLoopM (ref11_Told_b1 N a1 c1) (fun s1=>⟨[(1,.v (.c (.ptr 0 0 0 0 0 0))),(2,.v (.c (.ptr 1 0 0 0 0 0))),(3,.v (.c (.ptr 2 0 0 0 0 0))),(4,.v (.c (.ptr 3 0 0 0 0 0))),(5,.v (.c (.int .i64 s1.1)))],[(0,.mem true 62 none (.flat [.ints 64 .i64 a1])),(1,.mem true 62 none (.flat [.ints 64 .i64 (List.replicate 64 0)])),(2,.mem true 62 none (.flat [.ints 64 .i64 (c1.getD default)])),(3,.mem true 62 none (.flat [.ints 64 .i64 s1.2]))],4⟩) hl (To.mk' [] 0 hε rfl zL zL) (fun s1 zs1 NNs1 hz hnexts1 houts1 => ?_)
  clear hl hT
  have hT:=hz;clear hz
  refine rSeq (zA hX ?_)
  refine zCond rfl rfl (fun hc => ?_) (fun hc => ?_)
  .replace hT:=sT hc hT
   refine rSkip (rThen (rSeq (rBlock ?_)))
   replace hT:=sIf hT;obtain⟨⟨o1,o2,o3,o4,o5,o6⟩,hT⟩:=hT
   refine zReg md0 hX rfl rfl rfl ?_
   refine rInNormal (rThen ?_)
   replace hT:=sIf hT;obtain⟨o1,hT⟩:=hT
   refine zReg md0 hX rfl rfl rfl ?_
   exact hnexts1 _ (sJ hT).symm _ (To.mk' [] 0 hε rfl zL zL)
  .replace hT:=sF hc hT
   refine rExit (rThenExit (rThenExit ?_))
   exact zTo [] 0 hε (hxs10 _ (houts1 _ (sJ hT).symm))
 .cases h
def ref10_Events_b1(N:Nat)(v2:Zt11) (s3:(Int×(List (Bool×(Int×Int))))):Option ((Int×(List (Bool×(Int×Int))))⊕Zt3):=
 bif(decide (s3.1<(v2.1:Int)))then
  let x1:=(s3.2.set (s3.1).toNat ((decide ((s3.1+1)=(v2.1:Int))),(s3.2.getD (s3.1).toNat Zd1).2))
  if inK .i64 (s3.1+1)/\(0:Int)<=s3.1/\s3.1<(v2.1:Int)/\(s3.1).toNat<s3.2.length then
   if inK .i64 (s3.1+1)then
    some (.inl ((s3.1+1),x1))
   else none
  else none
 else
  some (.inr s3.2)
def ref10_Events_b2(N:Nat)(a1:(List Int))(s2:Zt9):Option (Zt9⊕(Unit⊕Zt11)):=
 bif(decide (s2.2.2.1<64))then
  let x2:=(bif(decide ((127:Int)<(a1.getD (s2.2.2.1).toNat 0)))then true else(decide ((a1.getD (s2.2.2.1).toNat 0)<(-127))))
  if(0:Int)<=s2.2.2.1/\s2.2.2.1<64/\(s2.2.2.1).toNat<64/\((!(decide ((127:Int)<(a1.getD (s2.2.2.1).toNat 0))))=true->(0:Int)<=s2.2.2.1)/\((!(decide ((127:Int)<(a1.getD (s2.2.2.1).toNat 0))))=true->s2.2.2.1<64)/\((!(decide ((127:Int)<(a1.getD (s2.2.2.1).toNat 0))))=true->(s2.2.2.1).toNat<64)then
   bif x2 then
    some (.inr (Sum.inl ()))
   else
    if(0:Int)<=s2.2.2.1/\s2.2.2.1<64/\(s2.2.2.1).toNat<64 then
     joinK (fun(v4:(Nat×Int×(List (Bool×(Int×Int)))))=>
      if inK .i64 (s2.2.2.1+1)then
       some (.inl (v4.1,v4.2.1,(s2.2.2.1+1),v4.2.2))
      else none
     ) fun k1=>
      bif(decide ((a1.getD (s2.2.2.1).toNat 0)≠0))then
       if inK .i64 (s2.2.2.1-s2.2.1)/\inK .i64 ((s2.2.2.1-s2.2.1)-1)/\(0:Int)<=s2.2.2.1/\s2.2.2.1<64/\(s2.2.2.1).toNat<64/\s2.2.2.2.length=s2.1/\(s2.1+1)*24<=140737488355328/\s2.1+1<=9223372036854775807 then
        k1 ((s2.1+1),s2.2.2.1,(s2.2.2.2++[(false,(((s2.2.2.1-s2.2.1)-1),(a1.getD (s2.2.2.1).toNat 0)))]))
       else none
      else
       k1 (s2.1,s2.2.1,s2.2.2.2)
    else none
  else none
 else
  some (.inr (Sum.inr (s2.1,s2.2.2.2)))
def ref10_Events(N:Nat)(a1:(List Int))(a2:Int):Option ((List (Bool×(Int×Int)))×Int):=
 bif(bif(decide (a2<0))then true else(decide ((1:Int)<a2)))then
  some ([],1)
 else
  if inK .i64 (a2-1)then
   (iter (ref10_Events_b2 N a1) N (0,(a2-1),a2,[])).bind fun w1=>
    (Sum.elim (fun v1=>
     some ([],7)
    )
     (fun v2=>
      (iter (ref10_Events_b1 N v2) N (0,v2.2)).bind fun v3=>
       if v2.1=v3.length then
        some (v3,0)
       else none
     )
    ) w1
  else none
def sp_ref10_Events(N:Nat):X.Spec:=fun args lk=>match args with
 | [.v (.agg [.ints 64 .i64 a1]),.v (.c (.int .i64 a2))]=>some ⟨(ref10_Events N a1 a2).isSome=true,.tup [.c (.fz Zs1 ((ref10_Events N a1 a2).getD default).1),.c (.int .i64 ((ref10_Events N a1 a2).getD default).2)],[],[]⟩
 | _=>none
theorem ok_ref10_Events(N:Nat):FnOK Tryz.prog gt0 56 (sp_ref10_Events N):=by
 refine fnOK_handed Tryz.func56 rfl (by kernel_rfl) tt_ok (ktNil) ?_
 intro args lk r h hp
 unfold sp_ref10_Events at h
 split at h
 .rename_i a1 a2
  change (List Int)at a1
  cases h
  obtain⟨x,hT⟩:=sX hp;clear hp
  simp only[hT,Option.getD_some]
  refine hand0 rfl rfl fun w0 M ε0 hX=>rCount fun hε => ?_
  unfold ref10_Events at hT
  refine zA hX ?_
  refine rSeq (zA hX ?_)
  refine zCond rfl rfl (fun hc => ?_) (fun hc => ?_)
  .replace hT:=sT hc hT
   refine zA hX ?_
   refine rRet (rThenRet ?_)
   have hy:=sJ hT;subst hy
   exact zEnd0 hX rfl
  .replace hT:=sF hc hT
   refine rSkip (rThen (zA hX ?_))
   replace hT:=sIf hT;obtain⟨o1,hT⟩:=hT
   refine zA hX ?_
   refine rSeq (zA hX ?_)
   refine rBlock (rNil 61 3 (.lst Zs1 []) [(2,.v (.c (.ptr 0 0 0 0 0 0))),(4,.v (.c (.val (.slice none 0 0)))),(5,.v (.c (.int .i64 0))),(6,.v (.c (.sl 1 0 0 3))),(7,.v (.c (.int .i64 (a2-1)))),(8,.v (.c (.int .i64 a2)))] [(0,.mem true 62 none (.flat [.ints 64 .i64 a1]))] (nil_lst _) zF zF ?_)
   replace hT:=sBind hT;obtain⟨w1,hl,hT⟩:=hT
   refine rJoinA (fun v1=>(Sum.inl v1)=w1) (fun v1=>⟨[(4,.v (.c (.val (.slice none 0 0)))),(5,.v (.c (.int .i64 7)))],[],2⟩) .ret (fun v1 hv => ?_) (fun hxs20 => ?_)
   .subst hv;clear hl;replace hT:=(sElimL hT)
    refine rInRet (rThenRet ?_)
    have hy:=sJ hT;subst hy
    exact zEnd0 hX rfl
   refine rJoinA (fun v2=>(Sum.inr v2)=w1) (fun v2=>⟨[(4,.v (.c (.val (.slice none 0 0)))),(5,.v (.c (.int .i64 0))),(6,.v (.c (.sl 1 0 v2.1 3)))],[(1,.mem true 61 (some 3) (.lst Zs1 v2.2))],2⟩) (.exit 0) (fun v2 hv => ?_) (fun hxs21 => ?_)
   .subst hv;clear hl;replace hT:=(sElimR hT)
    refine rInHit (rThen (rSeq (zA hX ?_)))
    refine rBlock ?_
    replace hT:=sBind hT;obtain⟨w2,hl,hT⟩:=hT
    refine rJoinA (fun v3=>v3=w2) (fun v3=>⟨[(4,.v (.c (.val (.slice none 0 0)))),(5,.v (.c (.int .i64 0))),(6,.v (.c (.sl 1 0 v2.1 3)))],[(1,.mem true 61 (some 3) (.lst Zs1 v3))],2⟩) (.exit 2) (fun v3 hv => ?_) (fun hxs30 => ?_)
    .subst hv;clear hl
     refine rInHit (rThen (zA hX ?_))
     refine rRet ?_
     replace hT:=sIf hT;obtain⟨p1,hT⟩:=hT
     refine rFreezeQ 1 Zs1 v3 [(4,.v (.c (.fz Zs1 v3))),(5,.v (.c (.int .i64 0)))] [] rfl rfl zF zF ?_
     have hy:=sJ hT;subst hy
     exact zEnd0 hX rfl
    refine rLoopM (ref10_Events_b1 N v2) (fun s3=>⟨[(4,.v (.c (.val (.slice none 0 0)))),(5,.v (.c (.int .i64 0))),(6,.v (.c (.sl 1 0 v2.1 3))),(9,.v (.c (.int .i64 s3.1)))],[(1,.mem true 61 (some 3) (.lst Zs1 s3.2))],2⟩) hl (To.mk' [] 0 hε rfl zL zL) (fun s3 zs3 NNs3 hz hnexts3 houts3 => ?_)
    clear hl hT
    have hT:=hz;clear hz
    refine rSeq (zA hX ?_)
    refine zCond rfl rfl (fun hc => ?_) (fun hc => ?_)
    .replace hT:=sT hc hT
     refine rSkip (rThen (rSeq (rBlock ?_)))
     let x1:=(s3.2.set (s3.1).toNat ((decide ((s3.1+1)=(v2.1:Int))),(s3.2.getD (s3.1).toNat Zd1).2))
     replace hT:=sIf hT;obtain⟨⟨o1,o2,o3,o4⟩,hT⟩:=hT
     refine zReg md0 hX rfl rfl rfl ?_
     refine rInNormal (rThen ?_)
     replace hT:=sIf hT;obtain⟨o1,hT⟩:=hT
     refine zReg md0 hX rfl rfl rfl ?_
     exact hnexts3 _ (sJ hT).symm _ (To.mk' [] 0 hε rfl zL zL)
    .replace hT:=sF hc hT
     refine rExit (rThenExit (rThenExit ?_))
     exact zTo [] 0 hε (hxs30 _ (houts3 _ (sJ hT).symm))
   refine rLoopM (ref10_Events_b2 N a1) (fun s2=>⟨[(2,.v (.c (.ptr 0 0 0 0 0 0))),(4,.v (.c (.val (.slice none 0 0)))),(5,.v (.c (.int .i64 0))),(6,.v (.c (.sl 1 0 s2.1 3))),(7,.v (.c (.int .i64 s2.2.1))),(8,.v (.c (.int .i64 s2.2.2.1)))],[(0,.mem true 62 none (.flat [.ints 64 .i64 a1])),(1,.mem true 61 (some 3) (.lst Zs1 s2.2.2.2))],2⟩) hl (To.mk' [] 0 hε rfl zL zL) (fun s2 zs2 NNs2 hz hnexts2 houts2 => ?_)
   clear hl hT
   have hT:=hz;clear hz
   refine rSeq (zA hX ?_)
   refine zCond rfl rfl (fun hc => ?_) (fun hc => ?_)
   .replace hT:=sT hc hT
    refine rSkip (rThen (rSeq (rBlock (rSeq ?_))))
    let x2:=(bif(decide ((127:Int)<(a1.getD (s2.2.2.1).toNat 0)))then true else(decide ((a1.getD (s2.2.2.1).toNat 0)<(-127))))
    replace hT:=sIf hT;obtain⟨⟨o1,o2,o3,o4,o5,o6⟩,hT⟩:=hT
    refine rSeq (rRegC md0 hX rfl rfl rfl zO ?_)
    refine rThen ?_
    refine zCond rfl rfl (fun hc => ?_) (fun hc => ?_)
    .replace hT:=sT hc hT
     refine zA hX ?_
     refine rRet (rThenRet (rInRet (rThenRet (rThenRet ?_))))
     exact zTo [] 0 hε (hxs20 _ (houts2 _ (sJ hT).symm))
    .replace hT:=sF hc hT
     refine rSkip (rThen ?_)
     replace hT:=sIf hT;obtain⟨⟨o1,o2,o3⟩,hT⟩:=hT
     refine zA hX ?_
     refine rJoinK hT (fun v4=>⟨[(2,.v (.c (.ptr 0 0 0 0 0 0))),(4,.v (.c (.val (.slice none 0 0)))),(5,.v (.c (.int .i64 0))),(6,.v (.c (.sl 3 0 v4.1 3))),(7,.v (.c (.int .i64 v4.2.1))),(8,.v (.c (.int .i64 s2.2.2.1))),(19,.v (.c (.int .i64 s2.2.2.1))),(20,.v (.c (.bool (decide (s2.2.2.1<64))))),(23,.v (.c (.int .i64 s2.2.2.1))),(24,.v (.c (.ptr 0 0 0 0 1 (s2.2.2.1).toNat))),(25,.v (.c (.int .i64 (a1.getD (s2.2.2.1).toNat 0)))),(26,.v (.c (.bool (decide ((127:Int)<(a1.getD (s2.2.2.1).toNat 0)))))),(27,.v (.c (.bool (decide ((127:Int)<(a1.getD (s2.2.2.1).toNat 0)))))),(32,.v (.c (.bool x2))),(33,.v (.c (.int .i64 s2.2.2.1))),(34,.v (.c (.ptr 0 0 0 0 1 (s2.2.2.1).toNat))),(35,.v (.c (.int .i64 (a1.getD (s2.2.2.1).toNat 0)))),(36,.v (.c (.bool (decide ((a1.getD (s2.2.2.1).toNat 0)≠0)))))],[(0,.mem true 62 none (.flat [.ints 64 .i64 a1])),(3,.mem true 61 (some 3) (.lst Zs1 v4.2.2))],4⟩) (fun v4 hT => ?_) (fun k1 hjk1 hT => ?_)
     .refine rInNormal (rThen ?_)
      replace hT:=sIf hT;obtain⟨o1,hT⟩:=hT
      refine zReg md0 hX rfl rfl rfl ?_
      exact hnexts2 _ (sJ hT).symm _ (To.mk' [0,3] 0 hε rfl zL zL)
     .refine zCond rfl rfl (fun hc => ?_) (fun hc => ?_)
      .replace hT:=sT hc hT
       replace hT:=sIf hT;obtain⟨⟨o1,o2,o3,o4,o5,o6,o7,o8⟩,hT⟩:=hT
       refine rSeq (zReg md0 hX rfl rfl rfl ?_)
       refine rLstQ 2 Zs1 [(false,(((s2.2.2.1-s2.2.1)-1),(a1.getD (s2.2.2.1).toNat 0)))] rfl rfl rfl ?_
       refine rThen (zReg md0 hX rfl rfl rfl ?_)
       exact zTo [] 0 hε (hjk1 _ hT)
      .replace hT:=sF hc hT
       refine rSkip ?_
       exact zTo [0,1,0,1] 0 hε (hjk1 _ hT)
   .replace hT:=sF hc hT
    refine rExit (rThenExit (rThenExit ?_))
    exact zTo [] 0 hε (hxs21 _ (houts2 _ (sJ hT).symm))
 .cases h
def ref36_Empty_b2(N:Nat)(a1:(List Int))(s1:Int)(s2:Int):Option (Int⊕(Unit⊕(Int×Int×Bool))):=
 bif(decide (s2<64))then
  if(0:Int)<=s1/\s1<6/\(0:Int)<=s2/\s2<64/\((s1).toNat*64+(s2).toNat)<384 then
   bif(decide ((a1.getD ((s1).toNat*64+(s2).toNat) 0)≠0))then
    some (.inr (Sum.inl ()))
   else
    if inK .i64 (s2+1)then
     some (.inl (s2+1))
    else none
  else none
 else
  some (.inr (Sum.inr (s2,s2,(decide (s2<64)))))
def ref36_Empty_b1(N:Nat)(a1:(List Int))(s1:Int):Option (Int⊕(Unit⊕Unit)):=
 bif(decide (s1<6))then
  (iter (ref36_Empty_b2 N a1 s1) N 0).bind fun w2=>
   (Sum.elim (fun v3=>
    some (.inr (Sum.inl ()))
   )
    (fun v4=>
     if inK .i64 (s1+1)then
      some (.inl (s1+1))
     else none
    )
   ) w2
 else
  some (.inr (Sum.inr ()))
def ref36_Empty(N:Nat)(a1:(List Int)):Option Bool:=
 (iter (ref36_Empty_b1 N a1) N 0).bind fun w1=>
  (Sum.elim (fun v1=>
   some false
  )
   (fun v2=>
    some true
   )
  ) w1
def sp_ref36_Empty(N:Nat):X.Spec:=fun args lk=>match args with
 | [.v (.agg [.ints 384 .i64 a1])]=>some ⟨(ref36_Empty N a1).isSome=true,.v (.c (.bool ((ref36_Empty N a1).getD default))),[],[]⟩
 | _=>none
theorem ok_ref36_Empty(N:Nat):FnOK Tryz.prog gt0 58 (sp_ref36_Empty N):=by
 refine fnOK_handed Tryz.func58 rfl (by kernel_rfl) tt_ok (ktNil) ?_
 intro args lk r h hp
 unfold sp_ref36_Empty at h
 split at h
 .rename_i a1
  change (List Int)at a1
  cases h
  obtain⟨x,hT⟩:=sX hp;clear hp
  simp only[hT,Option.getD_some]
  refine hand0 rfl rfl fun w0 M ε0 hX=>rCount fun hε => ?_
  unfold ref36_Empty at hT
  refine zA hX ?_
  refine rSeq (zA hX ?_)
  refine rBlock ?_
  replace hT:=sBind hT;obtain⟨w1,hl,hT⟩:=hT
  refine rJoinA (fun v1=>(Sum.inl v1)=w1) (fun v1=>⟨[(2,.v (.c (.bool false)))],[],1⟩) .ret (fun v1 hv => ?_) (fun hxs10 => ?_)
  .subst hv;clear hl;replace hT:=(sElimL hT)
   refine rInRet (rThenRet ?_)
   have hy:=sJ hT;subst hy
   exact zEnd0 hX rfl
  refine rJoinA (fun v2=>(Sum.inr v2)=w1) (fun v2=>⟨[(2,.v (.c (.bool false)))],[],1⟩) (.exit 0) (fun v2 hv => ?_) (fun hxs11 => ?_)
  .subst hv;clear hl;replace hT:=(sElimR hT)
   refine rInHit (rThen (zA hX ?_))
   refine rRet ?_
   have hy:=sJ hT;subst hy
   exact zEnd0 hX rfl
  refine rLoopM (ref36_Empty_b1 N a1) (fun s1=>⟨[(1,.v (.c (.ptr 0 0 0 0 0 0))),(2,.v (.c (.bool false))),(3,.v (.c (.int .i64 s1)))],[(0,.mem true 64 none (.flat [.ints 384 .i64 a1]))],1⟩) hl (To.mk' [] 0 hε rfl zL zL) (fun s1 zs1 NNs1 hz hnexts1 houts1 => ?_)
  clear hl hT
  have hT:=hz;clear hz
  refine rSeq (zA hX ?_)
  refine zCond rfl rfl (fun hc => ?_) (fun hc => ?_)
  .replace hT:=sT hc hT
   refine rSkip (rThen (rSeq (rBlock (zA hX ?_))))
   refine rBlock ?_
   replace hT:=sBind hT;obtain⟨w2,hl,hT⟩:=hT
   refine rJoinA (fun v3=>(Sum.inl v3)=w2) (fun v3=>⟨[(2,.v (.c (.bool false)))],[],1⟩) .ret (fun v3 hv => ?_) (fun hxs20 => ?_)
   .subst hv;clear hl;replace hT:=(sElimL hT)
    refine rInRet (rInRet (rThenRet (rThenRet ?_)))
    exact zTo [] 0 hε (hxs10 _ (houts1 _ (sJ hT).symm))
   refine rJoinA (fun v4=>(Sum.inr v4)=w2) (fun v4=>⟨[(1,.v (.c (.ptr 0 0 0 0 0 0))),(2,.v (.c (.bool false))),(3,.v (.c (.int .i64 s1))),(4,.v (.c (.int .i64 v4.1))),(5,.v (.c (.int .i64 s1))),(6,.v (.c (.bool (decide (s1<6))))),(9,.v (.c (.int .i64 v4.2.1))),(10,.v (.c (.bool v4.2.2)))],[(0,.mem true 64 none (.flat [.ints 384 .i64 a1]))],1⟩) (.exit 2) (fun v4 hv => ?_) (fun hxs21 => ?_)
   .subst hv;clear hl;replace hT:=(sElimR hT)
    refine rInHit (rInNormal (rThen ?_))
    replace hT:=sIf hT;obtain⟨o1,hT⟩:=hT
    refine zReg md0 hX rfl rfl rfl ?_
    exact hnexts1 _ (sJ hT).symm _ (To.mk' [] 0 hε rfl zL zL)
   refine rLoopM (ref36_Empty_b2 N a1 s1) (fun s2=>⟨[(1,.v (.c (.ptr 0 0 0 0 0 0))),(2,.v (.c (.bool false))),(3,.v (.c (.int .i64 s1))),(4,.v (.c (.int .i64 s2))),(5,.v (.c (.int .i64 s1))),(6,.v (.c (.bool (decide (s1<6)))))],[(0,.mem true 64 none (.flat [.ints 384 .i64 a1]))],1⟩) hl (To.mk' [] 0 hε rfl zL zL) (fun s2 zs2 NNs2 hz hnexts2 houts2 => ?_)
   clear hl hT
   have hT:=hz;clear hz
   refine rSeq (zA hX ?_)
   refine zCond rfl rfl (fun hc => ?_) (fun hc => ?_)
   .replace hT:=sT hc hT
    refine rSkip (rThen (rSeq (rBlock ?_)))
    replace hT:=sIf hT;obtain⟨⟨o1,o2,o3,o4,o5⟩,hT⟩:=hT
    refine zA hX ?_
    refine zCond rfl rfl (fun hc => ?_) (fun hc => ?_)
    .replace hT:=sT hc hT
     refine zA hX ?_
     refine rRet (rInRet (rThenRet (rThenRet ?_)))
     exact zTo [] 0 hε (hxs20 _ (houts2 _ (sJ hT).symm))
    .replace hT:=sF hc hT
     refine rSkip (rInNormal (rThen ?_))
     replace hT:=sIf hT;obtain⟨o1,hT⟩:=hT
     refine zReg md0 hX rfl rfl rfl ?_
     exact hnexts2 _ (sJ hT).symm _ (To.mk' [] 0 hε rfl zL zL)
   .replace hT:=sF hc hT
    refine rExit (rThenExit (rThenExit ?_))
    exact zTo [] 0 hε (hxs21 _ (houts2 _ (sJ hT).symm))
  .replace hT:=sF hc hT
   refine rExit (rThenExit (rThenExit ?_))
   exact zTo [] 0 hε (hxs11 _ (houts1 _ (sJ hT).symm))
 .cases h
def ref36_Cell_b1(N:Nat)(a8:(List Int))(c1:(Option Bool))(s1:Zt10):Option (Zt10⊕(Unit⊕Zt1)):=
 bif(decide (s1.1<6))then
  let x6:=(bif(decide ((bif(c1.getD default)then(1:Int)else 0)=1))then(decide ((a8.getD (64*(s1.1).toNat) 0)≠0))else false)
  if((decide ((bif(c1.getD default)then(1:Int)else 0)=1))=true->(0:Int)<=s1.1)/\((decide ((bif(c1.getD default)then(1:Int)else 0)=1))=true->s1.1<6)/\((decide ((bif(c1.getD default)then(1:Int)else 0)=1))=true->(64*(s1.1).toNat)<384)then
   bif x6 then
    some (.inr (Sum.inl ()))
   else
    let c3:=(ref11_Told N ((a8.drop (64*(s1.1).toNat)).take 64))
    let c4:=(ref10_Events N (c3.getD default) (bif(c1.getD default)then(1:Int)else 0))
    if(0:Int)<=s1.1/\s1.1<6/\(64*(s1.1).toNat)+64<=384/\c3.isSome=true/\c4.isSome=true then
     bif(decide ((c4.getD default).2≠0))then
      some (.inr (Sum.inl ()))
     else
      if(0:Int)<=s1.1/\s1.1<6/\(s1.1).toNat<6 then
       if inK .i64 (s1.1+1)then
        some (.inl ((s1.1+1),(s1.2.set (s1.1).toNat (c4.getD default).1)))
       else none
      else none
    else none
  else none
 else
  some (.inr (Sum.inr s1.2))
def ref36_Cell(N:Nat)(a1:Int)(a2:Bool)(a3:Int)(a4:Int)(a5:(List Int))(a6:(List Int))(a7:Zt1)(a8:(List Int))(a9:Int):Option Zt5:=
 bif(bif(decide (a9<(-2)))then true else(decide ((2:Int)<a9)))then
  some (0,false,0,0,(List.replicate 2 0),(List.replicate 6 0),(List.replicate 6 []),9)
 else
  let c1:=(ref21_Intra N a3)
  if c1.isSome=true then
   if((decide (a9≠0))=true->inK .i64 ((bif(c1.getD default)then(3:Int)else 0)+1))then
    let x1:=(bif(decide (a9≠0))then((bif(c1.getD default)then(3:Int)else 0)+1)else(bif(c1.getD default)then(3:Int)else 0))
    (iter (ref36_Cell_b1 N a8 c1) N (0,(List.replicate 6 []))).bind fun w1=>
     (Sum.elim (fun v1=>
      some (0,false,0,0,(List.replicate 2 0),(List.replicate 6 0),(List.replicate 6 []),7)
     )
      (fun v2=>
       let c2:=(ref36_Empty N a8)
       let x5:=(bif(bif(bif(bif(decide ((bif(c1.getD default)then(1:Int)else 0)=0))then(decide (a9=0))else false)then(c2.getD default)else false)then(decide ((a5.getD 0 0)=0))else false)then(decide ((a5.getD 1 0)=0))else false)
       if((bif(decide ((bif(c1.getD default)then(1:Int)else 0)=0))then(decide (a9=0))else false)=true->c2.isSome=true)then
        bif x5 then
         some (0,true,0,0,(List.replicate 2 0),(List.replicate 6 0),(List.replicate 6 []),0)
        else
         some (0,false,x1,a9,a5,a6,v2,0)
       else none
      )
     ) w1
   else none
  else none
def sp_ref36_Cell(N:Nat):X.Spec:=fun args lk=>match args with
 | [.v (.agg [.cs [.int .i64 a1,.bool a2,.int .i64 a3,.int .i64 a4],.ints 2 .i64 a5,.ints 6 .i64 a6,.fzs 6 (.pair .bool (.pair (.int .i64) (.int .i64))) a7]),.v (.agg [.ints 384 .i64 a8]),.v (.c (.int .i64 a9))]=>some ⟨(ref36_Cell N a1 a2 a3 a4 a5 a6 a7 a8 a9).isSome=true,.tup [.agg [.cs [.int .i64 ((ref36_Cell N a1 a2 a3 a4 a5 a6 a7 a8 a9).getD default).1,.bool ((ref36_Cell N a1 a2 a3 a4 a5 a6 a7 a8 a9).getD default).2.1,.int .i64 ((ref36_Cell N a1 a2 a3 a4 a5 a6 a7 a8 a9).getD default).2.2.1,.int .i64 ((ref36_Cell N a1 a2 a3 a4 a5 a6 a7 a8 a9).getD default).2.2.2.1],.ints 2 .i64 ((ref36_Cell N a1 a2 a3 a4 a5 a6 a7 a8 a9).getD default).2.2.2.2.1,.ints 6 .i64 ((ref36_Cell N a1 a2 a3 a4 a5 a6 a7 a8 a9).getD default).2.2.2.2.2.1,.fzs 6 Zs1 ((ref36_Cell N a1 a2 a3 a4 a5 a6 a7 a8 a9).getD default).2.2.2.2.2.2.1],.c (.int .i64 ((ref36_Cell N a1 a2 a3 a4 a5 a6 a7 a8 a9).getD default).2.2.2.2.2.2.2)],[],[]⟩
 | _=>none
theorem ok_ref36_Cell(N:Nat):FnOK Tryz.prog gt0 33 (sp_ref36_Cell N):=by
 refine fnOK_handed Tryz.func33 rfl (by kernel_rfl) tt_ok (ktCons (ok_ref10_Events N) (ktCons (ok_ref11_Told N) (ktCons (ok_ref36_Empty N) (ktCons (ok_ref21_Intra N) (ktNil))))) ?_
 intro args lk r h hp
 unfold sp_ref36_Cell at h
 split at h
 .rename_i a1 a2 a3 a4 a5 a6 a7 a8 a9
  change (List Int)at a5
  change (List Int)at a6
  change Zt1 at a7
  change (List Int)at a8
  cases h
  obtain⟨x,hT⟩:=sX hp;clear hp
  simp only[hT,Option.getD_some]
  refine hand0 rfl rfl fun w0 M ε0 hX=>rCount fun hε => ?_
  unfold ref36_Cell at hT
  refine zA hX ?_
  refine rSeq (zA hX ?_)
  refine zCond rfl rfl (fun hc => ?_) (fun hc => ?_)
  .replace hT:=sT hc hT
   refine zA hX ?_
   refine rRet (rThenRet ?_)
   have hy:=sJ hT;subst hy
   exact zEnd0 hX rfl
  .replace hT:=sF hc hT
   refine rSkip (rThen (zA hX ?_))
   refine zA hX ?_
   refine rSeq ?_
   let c1:=(ref21_Intra N a3)
   replace hT:=sIf hT;obtain⟨o1,hT⟩:=hT
   refine zA hX ?_
   refine rJoin ⟨[(2,.v (.c (.int .i64 a9))),(3,.v (.c (.ptr 0 0 0 0 0 0))),(4,.v (.c (.ptr 1 0 0 0 0 0))),(6,.v (.c (.ptr 2 0 0 0 0 0))),(7,.v (.c (.int .i64 0))),(8,.v (.c (.ptr 3 0 0 0 0 0))),(9,.v (.c (.int .i64 (bif(c1.getD default)then(1:Int)else 0))))],[(0,.mem true 35 none (.flat [.cs [.int .i64 a1,.bool a2,.int .i64 a3,.int .i64 a4],.ints 2 .i64 a5,.ints 6 .i64 a6,.fzs 6 Zs1 a7])),(1,.mem true 64 none (.flat [.ints 384 .i64 a8])),(2,.mem true 35 none (.flat [.cs [.int .i64 0,.bool false,.int .i64 0,.int .i64 0],.ints 2 .i64 (List.replicate 2 0),.ints 6 .i64 (List.replicate 6 0),.fzs 6 Zs1 (List.replicate 6 [])])),(3,.mem true 35 none (.flat [.cs [.int .i64 0,.bool false,.int .i64 (bif(c1.getD default)then(3:Int)else 0),.int .i64 a9],.ints 2 .i64 a5,.ints 6 .i64 a6,.fzs 6 Zs1 (List.replicate 6 [])]))],4⟩ ?_ (fun hj => ?_)
   .refine rThen (rSeq (zA hX ?_))
    replace hT:=sIf hT;obtain⟨q1,hT⟩:=hT
    refine rJoin ⟨[(2,.v (.c (.int .i64 a9))),(3,.v (.c (.ptr 0 0 0 0 0 0))),(4,.v (.c (.ptr 1 0 0 0 0 0))),(6,.v (.c (.ptr 2 0 0 0 0 0))),(7,.v (.c (.int .i64 0))),(8,.v (.c (.ptr 3 0 0 0 0 0))),(9,.v (.c (.int .i64 (bif(c1.getD default)then(1:Int)else 0))))],[(0,.mem true 35 none (.flat [.cs [.int .i64 a1,.bool a2,.int .i64 a3,.int .i64 a4],.ints 2 .i64 a5,.ints 6 .i64 a6,.fzs 6 Zs1 a7])),(1,.mem true 64 none (.flat [.ints 384 .i64 a8])),(2,.mem true 35 none (.flat [.cs [.int .i64 0,.bool false,.int .i64 0,.int .i64 0],.ints 2 .i64 (List.replicate 2 0),.ints 6 .i64 (List.replicate 6 0),.fzs 6 Zs1 (List.replicate 6 [])])),(3,.mem true 35 none (.flat [.cs [.int .i64 0,.bool false,.int .i64 (bif(decide (a9≠0))then((bif(c1.getD default)then(3:Int)else 0)+1)else(bif(c1.getD default)then(3:Int)else 0)),.int .i64 a9],.ints 2 .i64 a5,.ints 6 .i64 a6,.fzs 6 Zs1 (List.replicate 6 [])]))],4⟩ ?_ (fun hj => ?_)
    .let x1:=(bif(decide (a9≠0))then((bif(c1.getD default)then(3:Int)else 0)+1)else(bif(c1.getD default)then(3:Int)else 0))
     refine rThen (rSeq (zA hX ?_))
     refine rBlock ?_
     replace hT:=sBind hT;obtain⟨w1,hl,hT⟩:=hT
     refine rJoinA (fun v1=>(Sum.inl v1)=w1) (fun v1=>⟨[(6,.v (.c (.ptr 2 0 0 0 0 0))),(7,.v (.c (.int .i64 7)))],[(2,.mem true 35 none (.flat [.cs [.int .i64 0,.bool false,.int .i64 0,.int .i64 0],.ints 2 .i64 (List.replicate 2 0),.ints 6 .i64 (List.replicate 6 0),.fzs 6 Zs1 (List.replicate 6 [])]))],4⟩) .ret (fun v1 hv => ?_) (fun hxs10 => ?_)
     .subst hv;clear hl;replace hT:=(sElimL hT)
      refine rInRet (rThenRet ?_)
      have hy:=sJ hT;subst hy
      exact zEnd0 hX rfl
     refine rJoinA (fun v2=>(Sum.inr v2)=w1) (fun v2=>⟨[(2,.v (.c (.int .i64 a9))),(3,.v (.c (.ptr 0 0 0 0 0 0))),(4,.v (.c (.ptr 1 0 0 0 0 0))),(6,.v (.c (.ptr 2 0 0 0 0 0))),(7,.v (.c (.int .i64 0))),(8,.v (.c (.ptr 3 0 0 0 0 0))),(9,.v (.c (.int .i64 (bif(c1.getD default)then(1:Int)else 0))))],[(0,.mem true 35 none (.flat [.cs [.int .i64 a1,.bool a2,.int .i64 a3,.int .i64 a4],.ints 2 .i64 a5,.ints 6 .i64 a6,.fzs 6 Zs1 a7])),(1,.mem true 64 none (.flat [.ints 384 .i64 a8])),(2,.mem true 35 none (.flat [.cs [.int .i64 0,.bool false,.int .i64 0,.int .i64 0],.ints 2 .i64 (List.replicate 2 0),.ints 6 .i64 (List.replicate 6 0),.fzs 6 Zs1 (List.replicate 6 [])])),(3,.mem true 35 none (.flat [.cs [.int .i64 0,.bool false,.int .i64 x1,.int .i64 a9],.ints 2 .i64 a5,.ints 6 .i64 a6,.fzs 6 Zs1 v2]))],4⟩) (.exit 0) (fun v2 hv => ?_) (fun hxs11 => ?_)
     .subst hv;clear hl;replace hT:=(sElimR hT)
      refine rInHit (rThen (rSeq ?_))
      let c2:=(ref36_Empty N a8)
      let x5:=(bif(bif(bif(bif(decide ((bif(c1.getD default)then(1:Int)else 0)=0))then(decide (a9=0))else false)then(c2.getD default)else false)then(decide ((a5.getD 0 0)=0))else false)then(decide ((a5.getD 1 0)=0))else false)
      replace hT:=sIf hT;obtain⟨o1,hT⟩:=hT
      refine rSeq (rRegC md0 hX rfl rfl rfl zO ?_)
      refine rThen ?_
      refine zCond rfl rfl (fun hc => ?_) (fun hc => ?_)
      .replace hT:=sT hc hT
       refine zA hX ?_
       refine rRet (rThenRet ?_)
       have hy:=sJ hT;subst hy
       exact zEnd0 hX rfl
      .replace hT:=sF hc hT
       refine rSkip (rThen (zA hX ?_))
       refine rRet ?_
       have hy:=sJ hT;subst hy
       exact zEnd0 hX rfl
     refine rLoopM (ref36_Cell_b1 N a8 c1) (fun s1=>⟨[(2,.v (.c (.int .i64 a9))),(3,.v (.c (.ptr 0 0 0 0 0 0))),(4,.v (.c (.ptr 1 0 0 0 0 0))),(6,.v (.c (.ptr 2 0 0 0 0 0))),(7,.v (.c (.int .i64 0))),(8,.v (.c (.ptr 3 0 0 0 0 0))),(9,.v (.c (.int .i64 (bif(c1.getD default)then(1:Int)else 0)))),(10,.v (.c (.int .i64 s1.1)))],[(0,.mem true 35 none (.flat [.cs [.int .i64 a1,.bool a2,.int .i64 a3,.int .i64 a4],.ints 2 .i64 a5,.ints 6 .i64 a6,.fzs 6 Zs1 a7])),(1,.mem true 64 none (.flat [.ints 384 .i64 a8])),(2,.mem true 35 none (.flat [.cs [.int .i64 0,.bool false,.int .i64 0,.int .i64 0],.ints 2 .i64 (List.replicate 2 0),.ints 6 .i64 (List.replicate 6 0),.fzs 6 Zs1 (List.replicate 6 [])])),(3,.mem true 35 none (.flat [.cs [.int .i64 0,.bool false,.int .i64 x1,.int .i64 a9],.ints 2 .i64 a5,.ints 6 .i64 a6,.fzs 6 Zs1 s1.2]))],4⟩) hl (To.mk' [] 0 hε rfl zL zL) (fun s1 zs1 NNs1 hz hnexts1 houts1 => ?_)
     clear hl hT
     have hT:=hz;clear hz
     refine rSeq (zA hX ?_)
     refine zCond rfl rfl (fun hc => ?_) (fun hc => ?_)
     .replace hT:=sT hc hT
      refine rSkip (rThen (rSeq (rBlock (rSeq ?_))))
      let x6:=(bif(decide ((bif(c1.getD default)then(1:Int)else 0)=1))then(decide ((a8.getD (64*(s1.1).toNat) 0)≠0))else false)
      replace hT:=sIf hT;obtain⟨⟨o1,o2,o3⟩,hT⟩:=hT
      refine rSeq (rRegC md0 hX rfl rfl rfl zO ?_)
      refine rThen ?_
      refine zCond rfl rfl (fun hc => ?_) (fun hc => ?_)
      .replace hT:=sT hc hT
       refine zA hX ?_
       refine rRet (rThenRet (rInRet (rThenRet (rThenRet ?_))))
       exact zTo [] 0 hε (hxs10 _ (houts1 _ (sJ hT).symm))
      .replace hT:=sF hc hT
       refine rSkip (rThen ?_)
       let c3:=(ref11_Told N ((a8.drop (64*(s1.1).toNat)).take 64))
       let c4:=(ref10_Events N (c3.getD default) (bif(c1.getD default)then(1:Int)else 0))
       replace hT:=sIf hT;obtain⟨⟨o1,o2,o3,o4,o5⟩,hT⟩:=hT
       refine zA hX ?_
       refine rSeq (zA hX ?_)
       refine zCond rfl rfl (fun hc => ?_) (fun hc => ?_)
       .replace hT:=sT hc hT
        refine zA hX ?_
        refine rRet (rThenRet (rInRet (rThenRet (rThenRet ?_))))
        exact zTo [] 0 hε (hxs10 _ (houts1 _ (sJ hT).symm))
       .replace hT:=sF hc hT
        refine rSkip (rThen ?_)
        replace hT:=sIf hT;obtain⟨⟨o1,o2,o3⟩,hT⟩:=hT
        refine zReg md0 hX rfl rfl rfl ?_
        refine rInNormal (rThen ?_)
        replace hT:=sIf hT;obtain⟨o1,hT⟩:=hT
        refine zReg md0 hX rfl rfl rfl ?_
        exact hnexts1 _ (sJ hT).symm _ (To.mk' [] 0 hε rfl zL zL)
     .replace hT:=sF hc hT
      refine rExit (rThenExit (rThenExit ?_))
      exact zTo [] 0 hε (hxs11 _ (houts1 _ (sJ hT).symm))
    .clear hT
     refine zCond rfl rfl (fun hc => ?_) (fun hc => ?_)
     .have q1:=q1 hc
      refine zReg md0 hX rfl rfl rfl ?_
      exact rTo (To.mk' [] 0 hε rfl zJ zJ) hj
     .refine rSkip ?_
      exact rTo (To.mk' [] 0 hε rfl zJ zJ) hj
   .clear hT
    refine zCond rfl rfl (fun hc => ?_) (fun hc => ?_)
    .refine zA hX ?_
     refine zReg md0 hX rfl rfl rfl ?_
     exact rTo (To.mk' [] 0 hε rfl zJ zJ) hj
    .refine rSkip ?_
     exact rTo (To.mk' [] 0 hε rfl zJ zJ) hj
 .cases h
def ref38_Make(N:Nat)(a1:Int) (a2:(List (List Int))) (a3:Int) (a4:(List (List Int))) (a5:Int) (a6:Int) (a7:Bool) (a8:Int) (a9:Int) (a10:(List Int)) (a11:(List Int)) (a12:Zt1) (a13:(List Int)):Option Zt5:=
 let c1:=(ref21_Intra N a8)
 if c1.isSome=true then
  let c2:=(ref34_Drift N a1 a2 a3 a4 a5 a10)
  if((!(c1.getD default))=true->c2.isSome=true)then
   let c3:=(ref35_Cell N a6 a7 a8 a9 a10 a11 a12 (bif(!(c1.getD default))then(c2.getD default)else(List.replicate 384 0)) (a13.getD 0 0) (a13.getD 1 0))
   let c4:=(ref36_Cell N a6 a7 a8 a9 a10 a11 a12 (c3.getD default) (a13.getD 2 0))
   if c3.isSome=true/\c4.isSome=true then
    some ((c4.getD default).1,(c4.getD default).2.1,(c4.getD default).2.2.1,(c4.getD default).2.2.2.1,(c4.getD default).2.2.2.2.1,(c4.getD default).2.2.2.2.2.1,(c4.getD default).2.2.2.2.2.2.1,(c4.getD default).2.2.2.2.2.2.2)
   else none
  else none
 else none
def sp_ref38_Make(N:Nat):X.Spec:=fun args lk=>match args with
 | [.v (.agg [.cs [.int .i64 a1],.fzs 3 (.int .u8) a2]),.v (.agg [.cs [.int .i64 a3],.fzs 3 (.int .i64) a4]),.v (.c (.int .i64 a5)),.v (.agg [.cs [.int .i64 a6,.bool a7,.int .i64 a8,.int .i64 a9],.ints 2 .i64 a10,.ints 6 .i64 a11,.fzs 6 (.pair .bool (.pair (.int .i64) (.int .i64))) a12]),.v (.agg [.ints 3 .i64 a13])]=>some ⟨(ref38_Make N a1 a2 a3 a4 a5 a6 a7 a8 a9 a10 a11 a12 a13).isSome=true,.tup [.agg [.cs [.int .i64 ((ref38_Make N a1 a2 a3 a4 a5 a6 a7 a8 a9 a10 a11 a12 a13).getD default).1,.bool ((ref38_Make N a1 a2 a3 a4 a5 a6 a7 a8 a9 a10 a11 a12 a13).getD default).2.1,.int .i64 ((ref38_Make N a1 a2 a3 a4 a5 a6 a7 a8 a9 a10 a11 a12 a13).getD default).2.2.1,.int .i64 ((ref38_Make N a1 a2 a3 a4 a5 a6 a7 a8 a9 a10 a11 a12 a13).getD default).2.2.2.1],.ints 2 .i64 ((ref38_Make N a1 a2 a3 a4 a5 a6 a7 a8 a9 a10 a11 a12 a13).getD default).2.2.2.2.1,.ints 6 .i64 ((ref38_Make N a1 a2 a3 a4 a5 a6 a7 a8 a9 a10 a11 a12 a13).getD default).2.2.2.2.2.1,.fzs 6 Zs1 ((ref38_Make N a1 a2 a3 a4 a5 a6 a7 a8 a9 a10 a11 a12 a13).getD default).2.2.2.2.2.2.1],.c (.int .i64 ((ref38_Make N a1 a2 a3 a4 a5 a6 a7 a8 a9 a10 a11 a12 a13).getD default).2.2.2.2.2.2.2)],[],[]⟩
 | _=>none
theorem ok_ref38_Make(N:Nat):FnOK Tryz.prog gt0 14 (sp_ref38_Make N):=by
 refine fnOK_handed Tryz.func14 rfl (by kernel_rfl) tt_ok (ktCons (ok_ref36_Cell N) (ktCons (ok_ref35_Cell N) (ktCons (ok_ref34_Drift N) (ktCons (ok_ref21_Intra N) (ktNil))))) ?_
 intro args lk r h hp
 unfold sp_ref38_Make at h
 split at h
 .rename_i a1 a2 a3 a4 a5 a6 a7 a8 a9 a10 a11 a12 a13
  change (List (List Int))at a2
  change (List (List Int))at a4
  change (List Int)at a10
  change (List Int)at a11
  change Zt1 at a12
  change (List Int)at a13
  cases h
  obtain⟨x,hT⟩:=sX hp;clear hp
  simp only[hT,Option.getD_some]
  refine hand0 rfl rfl fun w0 M ε0 hX=>rCount fun hε => ?_
  unfold ref38_Make at hT
  refine zA hX ?_
  refine zA hX ?_
  refine rSeq ?_
  let c1:=(ref21_Intra N a8)
  replace hT:=sIf hT;obtain⟨o1,hT⟩:=hT
  refine zA hX ?_
  let c2:=(ref34_Drift N a1 a2 a3 a4 a5 a10)
  replace hT:=sIf hT;obtain⟨q1,hT⟩:=hT
  refine rJoin ⟨[(8,.v (.c (.ptr 2 0 0 0 0 0))),(9,.v (.c (.ptr 3 0 0 0 0 0))),(10,.v (.c (.ptr 4 0 0 0 0 0))),(11,.v (.c (.int .i64 0))),(12,.v (.c (.ptr 5 0 0 0 0 0)))],[(2,.mem true 35 none (.flat [.cs [.int .i64 a6,.bool a7,.int .i64 a8,.int .i64 a9],.ints 2 .i64 a10,.ints 6 .i64 a11,.fzs 6 Zs1 a12])),(3,.mem true 54 none (.flat [.ints 3 .i64 a13])),(4,.mem true 35 none (.flat [.cs [.int .i64 0,.bool false,.int .i64 0,.int .i64 0],.ints 2 .i64 (List.replicate 2 0),.ints 6 .i64 (List.replicate 6 0),.fzs 6 Zs1 (List.replicate 6 [])])),(5,.mem true 64 none (.flat [.ints 384 .i64 (bif(!(c1.getD default))then(c2.getD default)else(List.replicate 384 0))]))],6⟩ ?_ (fun hj => ?_)
  .refine rThen ?_
   let c3:=(ref35_Cell N a6 a7 a8 a9 a10 a11 a12 (bif(!(c1.getD default))then(c2.getD default)else(List.replicate 384 0)) (a13.getD 0 0) (a13.getD 1 0))
   let c4:=(ref36_Cell N a6 a7 a8 a9 a10 a11 a12 (c3.getD default) (a13.getD 2 0))
   replace hT:=sIf hT;obtain⟨⟨o1,o2⟩,hT⟩:=hT
   refine rSeq (zDraw md0 1 [13] hX mixed rfl rfl rfl rfl rfl ?_)
   refine rThen (rRet ?_)
   have hy:=sJ hT;subst hy
   exact zEnd0 hX rfl
  .clear hT
   refine zCond rfl rfl (fun hc => ?_) (fun hc => ?_)
   .have q1:=q1 hc
    refine zReg md0 hX rfl rfl rfl ?_
    exact rTo (To.mk' [] 0 hε rfl zJ zJ) hj
   .refine rSkip ?_
    exact rTo (To.mk' [] 0 hε rfl zJ zJ) hj
 .cases h
def law38_CellxMakes(N:Nat)(a1:Int) (a2:(List (List Int))) (a3:Int) (a4:(List (List Int))) (a5:Int) (a6:Bool) (a7:Int) (a8:Int) (a9:(List Int)) (a10:(List Int)) (a11:Zt1) (a12:Int) (a13:Int) (a14:Int) (a15:Int):Option Bool:=
 let c1:=(law38_light N a1 a2 a3 a4 a5 a6 a7 a8 a9 a10 a11)
 if c1.isSome=true then
  bif(!(c1.getD default))then
   let c2:=(law38_lives N)
   if c2.isSome=true then
    some (c2.getD default)
   else none
  else
   let c3:=(cellx_Make N a1 a2 a3 a4 a12 a5 a6 a7 a8 a9 a10 a11 a13 a14 a15)
   if c3.isSome=true then
    let c4:=(ref22_Right N true a5 a6 a7 a8 a9 a10 a11)
    if c4.isSome=true then
     let c5:=(ref21_Intra N a7)
     let c6:=(ref17_Right N a1 a2)
     let c7:=(ref34_Right N a3 a4)
     let c8:=(ref16_Many N a1)
     let c9:=(ref18_May N a1 a12 a9)
     if((!(c4.getD default))=false->c5.isSome=true)/\((!(c4.getD default))=false->((!(c5.getD default))=true->c6.isSome=true))/\((!(c4.getD default))=false->((!(c5.getD default))=true->((!(!(c6.getD default)))=true->c7.isSome=true)))/\((!(c4.getD default))=false->((!(c5.getD default))=true->((!(bif(bif(bif(!(c6.getD default))then true else(!(c7.getD default)))then true else(decide (a1≠a3)))then true else(decide (a12<0))))=true->c8.isSome=true)))/\((!(c4.getD default))=false->((!(c5.getD default))=true->((bif(bif(bif(bif(!(c6.getD default))then true else(!(c7.getD default)))then true else(decide (a1≠a3)))then true else(decide (a12<0)))then true else(decide ((c8.getD default)<=a12)))=false->c9.isSome=true)))then
      let x1:=(bif(!(c4.getD default))then 12 else(bif(!(c5.getD default))then(bif(bif(bif(bif(bif(!(c6.getD default))then true else(!(c7.getD default)))then true else(decide (a1≠a3)))then true else(decide (a12<0)))then true else(decide ((c8.getD default)<=a12)))then 1 else(bif(!(c9.getD default))then(8:Int)else 0))else 0))
      bif(decide (x1≠0))then
       let c10:=(ref21_Same N (c3.getD default).1 (c3.getD default).2.1 (c3.getD default).2.2.1 (c3.getD default).2.2.2.1 (c3.getD default).2.2.2.2.1 (c3.getD default).2.2.2.2.2.1 (c3.getD default).2.2.2.2.2.2.1 0 false 0 0 (List.replicate 2 0) (List.replicate 6 0) (List.replicate 6 []))
       let c11:=(law38_lives N)
       let x2:=(bif(bif(c10.getD default)then(decide ((c3.getD default).2.2.2.2.2.2.2=x1))else false)then(c11.getD default)else false)
       if c10.isSome=true/\((bif(c10.getD default)then(decide ((c3.getD default).2.2.2.2.2.2.2=x1))else false)=true->c11.isSome=true)then
        some x2
       else none
      else
       let c12:=(ref38_Make N a1 a2 a3 a4 a12 a5 a6 a7 a8 a9 a10 a11 ((((List.replicate 3 0).set 0 a13).set 1 a14).set 2 a15))
       if c12.isSome=true then
        let c13:=(ref21_Same N (c3.getD default).1 (c3.getD default).2.1 (c3.getD default).2.2.1 (c3.getD default).2.2.2.1 (c3.getD default).2.2.2.2.1 (c3.getD default).2.2.2.2.2.1 (c3.getD default).2.2.2.2.2.2.1 (c12.getD default).1 (c12.getD default).2.1 (c12.getD default).2.2.1 (c12.getD default).2.2.2.1 (c12.getD default).2.2.2.2.1 (c12.getD default).2.2.2.2.2.1 (c12.getD default).2.2.2.2.2.2.1)
        let c14:=(law38_lives N)
        let x3:=(bif(bif(c13.getD default)then(decide ((c3.getD default).2.2.2.2.2.2.2=(c12.getD default).2.2.2.2.2.2.2))else false)then(c14.getD default)else false)
        if c13.isSome=true/\((bif(c13.getD default)then(decide ((c3.getD default).2.2.2.2.2.2.2=(c12.getD default).2.2.2.2.2.2.2))else false)=true->c14.isSome=true)then
         some x3
        else none
       else none
     else none
    else none
   else none
 else none
def sp_law38_CellxMakes(N:Nat):X.Spec:=fun args lk=>match args with
 | [.v (.agg [.cs [.int .i64 a1],.fzs 3 (.int .u8) a2]),.v (.agg [.cs [.int .i64 a3],.fzs 3 (.int .i64) a4]),.v (.agg [.cs [.int .i64 a5,.bool a6,.int .i64 a7,.int .i64 a8],.ints 2 .i64 a9,.ints 6 .i64 a10,.fzs 6 (.pair .bool (.pair (.int .i64) (.int .i64))) a11,.cs [.int .i64 a12,.int .i64 a13,.int .i64 a14,.int .i64 a15]])]=>some ⟨(law38_CellxMakes N a1 a2 a3 a4 a5 a6 a7 a8 a9 a10 a11 a12 a13 a14 a15).isSome=true,.v (.c (.bool ((law38_CellxMakes N a1 a2 a3 a4 a5 a6 a7 a8 a9 a10 a11 a12 a13 a14 a15).getD default))),[],[]⟩
 | _=>none
theorem ok_law38_CellxMakes(N:Nat):FnOK Tryz.prog gt0 3 (sp_law38_CellxMakes N):=by
 refine fnOK_handed Tryz.func3 rfl (by kernel_rfl) tt_ok (ktCons (ok_ref38_Make N) (ktCons (ok_ref21_Same N) (ktCons (ok_ref18_May N) (ktCons (ok_ref16_Many N) (ktCons (ok_ref34_Right N) (ktCons (ok_ref17_Right N) (ktCons (ok_ref21_Intra N) (ktCons (ok_ref22_Right N) (ktCons (ok_cellx_Make N) (ktCons (ok_law38_lives N) (ktCons (ok_law38_light N) (ktNil)))))))))))) ?_
 intro args lk r h hp
 unfold sp_law38_CellxMakes at h
 split at h
 .rename_i a1 a2 a3 a4 a5 a6 a7 a8 a9 a10 a11 a12 a13 a14 a15
  change (List (List Int))at a2
  change (List (List Int))at a4
  change (List Int)at a9
  change (List Int)at a10
  change Zt1 at a11
  cases h
  obtain⟨x,hT⟩:=sX hp;clear hp
  simp only[hT,Option.getD_some]
  refine hand0 rfl rfl fun w0 M ε0 hX=>rCount fun hε => ?_
  unfold law38_CellxMakes at hT
  refine zA hX ?_
  refine rSeq ?_
  let c1:=(law38_light N a1 a2 a3 a4 a5 a6 a7 a8 a9 a10 a11)
  replace hT:=sIf hT;obtain⟨o1,hT⟩:=hT
  refine zA hX ?_
  refine zCond rfl rfl (fun hc => ?_) (fun hc => ?_)
  .replace hT:=sT hc hT
   let c2:=(law38_lives N)
   replace hT:=sIf hT;obtain⟨o1,hT⟩:=hT
   refine zA hX ?_
   refine rRet (rThenRet ?_)
   have hy:=sJ hT;subst hy
   exact zEnd0 hX rfl
  .replace hT:=sF hc hT
   refine rSkip (rThen ?_)
   let c3:=(cellx_Make N a1 a2 a3 a4 a12 a5 a6 a7 a8 a9 a10 a11 a13 a14 a15)
   replace hT:=sIf hT;obtain⟨o1,hT⟩:=hT
   refine zA hX ?_
   refine zA hX ?_
   refine rSeq ?_
   let c4:=(ref22_Right N true a5 a6 a7 a8 a9 a10 a11)
   replace hT:=sIf hT;obtain⟨o1,hT⟩:=hT
   refine zA hX ?_
   let c5:=(ref21_Intra N a7)
   let c6:=(ref17_Right N a1 a2)
   let c7:=(ref34_Right N a3 a4)
   let c8:=(ref16_Many N a1)
   let c9:=(ref18_May N a1 a12 a9)
   replace hT:=sIf hT;obtain⟨⟨q1,q2,q3,q4,q5⟩,hT⟩:=hT
   refine rJoin ⟨[(3,.v (.c (.ptr 0 0 0 0 0 0))),(4,.v (.c (.ptr 1 0 0 0 0 0))),(5,.v (.c (.ptr 2 0 0 0 0 0))),(6,.v (.c (.bool false))),(7,.v (.c (.ptr 3 0 0 0 0 0))),(8,.v (.c (.int .i64 (c3.getD default).2.2.2.2.2.2.2))),(9,.v (.c (.int .i64 (bif(!(c4.getD default))then 12 else(bif(!(c5.getD default))then(bif(bif(bif(bif(bif(!(c6.getD default))then true else(!(c7.getD default)))then true else(decide (a1≠a3)))then true else(decide (a12<0)))then true else(decide ((c8.getD default)<=a12)))then 1 else(bif(!(c9.getD default))then(8:Int)else 0))else 0)))))],[(0,.mem true 25 none (.flat [.cs [.int .i64 a1],.fzs 3 (.int .u8) a2])),(1,.mem true 29 none (.flat [.cs [.int .i64 a3],.fzs 3 (.int .i64) a4])),(2,.mem true 37 none (.flat [.cs [.int .i64 a5,.bool a6,.int .i64 a7,.int .i64 a8],.ints 2 .i64 a9,.ints 6 .i64 a10,.fzs 6 Zs1 a11,.cs [.int .i64 a12,.int .i64 a13,.int .i64 a14,.int .i64 a15]])),(3,.mem true 35 none (.flat [.cs [.int .i64 (c3.getD default).1,.bool (c3.getD default).2.1,.int .i64 (c3.getD default).2.2.1,.int .i64 (c3.getD default).2.2.2.1],.ints 2 .i64 (c3.getD default).2.2.2.2.1,.ints 6 .i64 (c3.getD default).2.2.2.2.2.1,.fzs 6 Zs1 (c3.getD default).2.2.2.2.2.2.1]))],4⟩ ?_ (fun hj => ?_)
   .let x1:=(bif(!(c4.getD default))then 12 else(bif(!(c5.getD default))then(bif(bif(bif(bif(bif(!(c6.getD default))then true else(!(c7.getD default)))then true else(decide (a1≠a3)))then true else(decide (a12<0)))then true else(decide ((c8.getD default)<=a12)))then 1 else(bif(!(c9.getD default))then(8:Int)else 0))else 0))
    refine rThen (rSeq (zA hX ?_))
    refine zCond rfl rfl (fun hc => ?_) (fun hc => ?_)
    .replace hT:=sT hc hT
     let c10:=(ref21_Same N (c3.getD default).1 (c3.getD default).2.1 (c3.getD default).2.2.1 (c3.getD default).2.2.2.1 (c3.getD default).2.2.2.2.1 (c3.getD default).2.2.2.2.2.1 (c3.getD default).2.2.2.2.2.2.1 0 false 0 0 (List.replicate 2 0) (List.replicate 6 0) (List.replicate 6 []))
     let c11:=(law38_lives N)
     let x2:=(bif(bif(c10.getD default)then(decide ((c3.getD default).2.2.2.2.2.2.2=x1))else false)then(c11.getD default)else false)
     replace hT:=sIf hT;obtain⟨⟨o1,o2⟩,hT⟩:=hT
     refine rSeq (rRegC md0 hX rfl rfl rfl zO ?_)
     refine rThen (rRet (rThenRet ?_))
     have hy:=sJ hT;subst hy
     exact zEnd0 hX rfl
    .replace hT:=sF hc hT
     refine rSkip (rThen ?_)
     let c12:=(ref38_Make N a1 a2 a3 a4 a12 a5 a6 a7 a8 a9 a10 a11 ((((List.replicate 3 0).set 0 a13).set 1 a14).set 2 a15))
     replace hT:=sIf hT;obtain⟨o1,hT⟩:=hT
     refine zA hX ?_
     let c13:=(ref21_Same N (c3.getD default).1 (c3.getD default).2.1 (c3.getD default).2.2.1 (c3.getD default).2.2.2.1 (c3.getD default).2.2.2.2.1 (c3.getD default).2.2.2.2.2.1 (c3.getD default).2.2.2.2.2.2.1 (c12.getD default).1 (c12.getD default).2.1 (c12.getD default).2.2.1 (c12.getD default).2.2.2.1 (c12.getD default).2.2.2.2.1 (c12.getD default).2.2.2.2.2.1 (c12.getD default).2.2.2.2.2.2.1)
     let c14:=(law38_lives N)
     let x3:=(bif(bif(c13.getD default)then(decide ((c3.getD default).2.2.2.2.2.2.2=(c12.getD default).2.2.2.2.2.2.2))else false)then(c14.getD default)else false)
     replace hT:=sIf hT;obtain⟨⟨o1,o2⟩,hT⟩:=hT
     refine rSeq (rRegC md0 hX rfl rfl rfl zO ?_)
     refine rThen (rRet ?_)
     have hy:=sJ hT;subst hy
     exact zEnd0 hX rfl
   .clear hT
    refine zCond rfl rfl (fun hc => ?_) (fun hc => ?_)
    .refine zReg md0 hX rfl rfl rfl ?_
     exact rTo (To.mk' [] 0 hε rfl zJ zJ) hj
    .have q1:=q1 hc
     have q2:=q2 hc
     have q3:=q3 hc
     have q4:=q4 hc
     have q5:=q5 hc
     refine zA hX ?_
     refine zCond rfl rfl (fun hc => ?_) (fun hc => ?_)
     .have q2:=q2 hc
      have q3:=q3 hc
      have q4:=q4 hc
      have q5:=q5 hc
      refine rSeq (zDrawQ md0 0 [] hX mixed rfl rfl rfl rfl rfl ?_)
      refine rThen ?_
      refine zCond rfl rfl (fun hc => ?_) (fun hc => ?_)
      .refine zReg md0 hX rfl rfl rfl ?_
       exact rTo (To.mk' [] 0 hε rfl zJ zJ) hj
      .have q5:=q5 hc
       refine zA hX ?_
       refine zCond rfl rfl (fun hc => ?_) (fun hc => ?_)
       .refine zReg md0 hX rfl rfl rfl ?_
        exact rTo (To.mk' [] 0 hε rfl zJ zJ) hj
       .refine rSkip ?_
        exact rTo (To.mk' [] 0 hε rfl zJ zJ) hj
     .refine rSkip ?_
      exact rTo (To.mk' [] 0 hε rfl zJ zJ) hj
 .cases h
end Go.Proofs.YtnpokkaalcfbfaaGreatDoor
