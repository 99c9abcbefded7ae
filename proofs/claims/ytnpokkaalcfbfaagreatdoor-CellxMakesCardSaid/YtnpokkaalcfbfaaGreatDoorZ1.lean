/- Models of functions, and that the program does what they tell. -/
import Derived.Test.YtnpokkaalcfbfaaGreatDoorZ0
set_option linter.unusedVariables false
set_option linter.unusedSimpArgs false
namespace Go.Proofs.YtnpokkaalcfbfaaGreatDoor
open Go.X
set_option maxRecDepth 100000
set_option maxHeartbeats 1000000
def law17_Light(N:Nat)(a1:Int) (a2:(List (List Int))):Option Bool:=
 let x1:=(bif(bif(decide (((a2.getD 0 []).length:Int)<=30000))then(decide (((a2.getD 1 []).length:Int)<=30000))else false)then(decide (((a2.getD 2 []).length:Int)<=30000))else false)
 some x1
def sp_law17_Light(N:Nat):X.Spec:=fun args lk=>match args with
 | [.v (.agg [.cs [.int .i64 a1],.fzs 3 (.int .u8) a2])]=>some ⟨(law17_Light N a1 a2).isSome=true,.v (.c (.bool ((law17_Light N a1 a2).getD default))),[],[]⟩
 | _=>none
theorem ok_law17_Light(N:Nat):FnOK Tryz.prog gt0 15 (sp_law17_Light N):=by
 refine fnOK_handed Tryz.func15 rfl (by kernel_rfl) tt_ok (ktNil) ?_
 intro args lk r h hp
 unfold sp_law17_Light at h
 split at h
 .rename_i a1 a2
  change (List (List Int))at a2
  cases h
  obtain⟨x,hT⟩:=sX hp;clear hp
  simp only[hT,Option.getD_some]
  refine hand0 rfl rfl fun w0 M ε0 hX=>rCount fun hε => ?_
  unfold law17_Light at hT
  refine zA hX ?_
  let x1:=(bif(bif(decide (((a2.getD 0 []).length:Int)<=30000))then(decide (((a2.getD 1 []).length:Int)<=30000))else false)then(decide (((a2.getD 2 []).length:Int)<=30000))else false)
  refine zA hX ?_
  refine rRet ?_
  have hy:=sJ hT;subst hy
  exact zEnd0 hX rfl
 .cases h
def law34_Light(N:Nat)(a1:Int) (a2:(List (List Int))):Option Bool:=
 let x1:=(bif(bif(decide (((a2.getD 0 []).length:Int)<=30000))then(decide (((a2.getD 1 []).length:Int)<=30000))else false)then(decide (((a2.getD 2 []).length:Int)<=30000))else false)
 some x1
def sp_law34_Light(N:Nat):X.Spec:=fun args lk=>match args with
 | [.v (.agg [.cs [.int .i64 a1],.fzs 3 (.int .i64) a2])]=>some ⟨(law34_Light N a1 a2).isSome=true,.v (.c (.bool ((law34_Light N a1 a2).getD default))),[],[]⟩
 | _=>none
theorem ok_law34_Light(N:Nat):FnOK Tryz.prog gt0 16 (sp_law34_Light N):=by
 refine fnOK_handed Tryz.func16 rfl (by kernel_rfl) tt_ok (ktNil) ?_
 intro args lk r h hp
 unfold sp_law34_Light at h
 split at h
 .rename_i a1 a2
  change (List (List Int))at a2
  cases h
  obtain⟨x,hT⟩:=sX hp;clear hp
  simp only[hT,Option.getD_some]
  refine hand0 rfl rfl fun w0 M ε0 hX=>rCount fun hε => ?_
  unfold law34_Light at hT
  refine zA hX ?_
  let x1:=(bif(bif(decide (((a2.getD 0 []).length:Int)<=30000))then(decide (((a2.getD 1 []).length:Int)<=30000))else false)then(decide (((a2.getD 2 []).length:Int)<=30000))else false)
  refine zA hX ?_
  refine rRet ?_
  have hy:=sJ hT;subst hy
  exact zEnd0 hX rfl
 .cases h
def law38_light_b1(N:Nat)(a11:Zt1)(s1:Int):Option (Int⊕(Unit⊕Unit)):=
 bif(decide (s1<6))then
  if(0:Int)<=s1/\s1<6/\(s1).toNat<6 then
   bif(decide ((100:Int)<((a11.getD (s1).toNat []).length:Int)))then
    some (.inr (Sum.inl ()))
   else
    if inK .i64 (s1+1)then
     some (.inl (s1+1))
    else none
  else none
 else
  some (.inr (Sum.inr ()))
def law38_light(N:Nat)(a1:Int) (a2:(List (List Int))) (a3:Int) (a4:(List (List Int))) (a5:Int) (a6:Bool) (a7:Int) (a8:Int) (a9:(List Int)) (a10:(List Int)) (a11:Zt1):Option Bool:=
 (iter (law38_light_b1 N a11) N 0).bind fun w1=>
  (Sum.elim (fun v1=>
   some false
  )
   (fun v2=>
    let c1:=(law17_Light N a1 a2)
    let c2:=(law34_Light N a3 a4)
    if c1.isSome=true/\((c1.getD default)=true->c2.isSome=true)then
     some (bif(c1.getD default)then(c2.getD default)else false)
    else none
   )
  ) w1
def sp_law38_light(N:Nat):X.Spec:=fun args lk=>match args with
 | [.v (.agg [.cs [.int .i64 a1],.fzs 3 (.int .u8) a2]),.v (.agg [.cs [.int .i64 a3],.fzs 3 (.int .i64) a4]),.v (.agg [.cs [.int .i64 a5,.bool a6,.int .i64 a7,.int .i64 a8],.ints 2 .i64 a9,.ints 6 .i64 a10,.fzs 6 (.pair .bool (.pair (.int .i64) (.int .i64))) a11])]=>some ⟨(law38_light N a1 a2 a3 a4 a5 a6 a7 a8 a9 a10 a11).isSome=true,.v (.c (.bool ((law38_light N a1 a2 a3 a4 a5 a6 a7 a8 a9 a10 a11).getD default))),[],[]⟩
 | _=>none
theorem ok_law38_light(N:Nat):FnOK Tryz.prog gt0 4 (sp_law38_light N):=by
 refine fnOK_handed Tryz.func4 rfl (by kernel_rfl) tt_ok (ktCons (ok_law34_Light N) (ktCons (ok_law17_Light N) (ktNil))) ?_
 intro args lk r h hp
 unfold sp_law38_light at h
 split at h
 .rename_i a1 a2 a3 a4 a5 a6 a7 a8 a9 a10 a11
  change (List (List Int))at a2
  change (List (List Int))at a4
  change (List Int)at a9
  change (List Int)at a10
  change Zt1 at a11
  cases h
  obtain⟨x,hT⟩:=sX hp;clear hp
  simp only[hT,Option.getD_some]
  refine hand0 rfl rfl fun w0 M ε0 hX=>rCount fun hε => ?_
  unfold law38_light at hT
  refine zA hX ?_
  refine rSeq (zA hX ?_)
  refine rBlock ?_
  replace hT:=sBind hT;obtain⟨w1,hl,hT⟩:=hT
  refine rJoinA (fun v1=>(Sum.inl v1)=w1) (fun v1=>⟨[(6,.v (.c (.bool false)))],[],3⟩) .ret (fun v1 hv => ?_) (fun hxs10 => ?_)
  .subst hv;clear hl;replace hT:=(sElimL hT)
   refine rInRet (rThenRet ?_)
   have hy:=sJ hT;subst hy
   exact zEnd0 hX rfl
  refine rJoinA (fun v2=>(Sum.inr v2)=w1) (fun v2=>⟨[(3,.v (.c (.ptr 0 0 0 0 0 0))),(4,.v (.c (.ptr 1 0 0 0 0 0))),(6,.v (.c (.bool false)))],[(0,.mem true 25 none (.flat [.cs [.int .i64 a1],.fzs 3 (.int .u8) a2])),(1,.mem true 29 none (.flat [.cs [.int .i64 a3],.fzs 3 (.int .i64) a4]))],3⟩) (.exit 0) (fun v2 hv => ?_) (fun hxs11 => ?_)
  .subst hv;clear hl;replace hT:=(sElimR hT)
   refine rInHit (rThen ?_)
   let c1:=(law17_Light N a1 a2)
   let c2:=(law34_Light N a3 a4)
   replace hT:=sIf hT;obtain⟨⟨o1,o2⟩,hT⟩:=hT
   refine rSeq (rRegC md0 hX rfl rfl rfl zO ?_)
   refine rThen (rRet ?_)
   have hy:=sJ hT;subst hy
   exact zEnd0 hX rfl
  refine rLoopM (law38_light_b1 N a11) (fun s1=>⟨[(3,.v (.c (.ptr 0 0 0 0 0 0))),(4,.v (.c (.ptr 1 0 0 0 0 0))),(5,.v (.c (.ptr 2 0 0 0 0 0))),(6,.v (.c (.bool false))),(7,.v (.c (.int .i64 s1)))],[(0,.mem true 25 none (.flat [.cs [.int .i64 a1],.fzs 3 (.int .u8) a2])),(1,.mem true 29 none (.flat [.cs [.int .i64 a3],.fzs 3 (.int .i64) a4])),(2,.mem true 35 none (.flat [.cs [.int .i64 a5,.bool a6,.int .i64 a7,.int .i64 a8],.ints 2 .i64 a9,.ints 6 .i64 a10,.fzs 6 Zs1 a11]))],3⟩) hl (To.mk' [] 0 hε rfl zL zL) (fun s1 zs1 NNs1 hz hnexts1 houts1 => ?_)
  clear hl hT
  have hT:=hz;clear hz
  refine rSeq (zA hX ?_)
  refine zCond rfl rfl (fun hc => ?_) (fun hc => ?_)
  .replace hT:=sT hc hT
   refine rSkip (rThen (rSeq (rBlock ?_)))
   replace hT:=sIf hT;obtain⟨⟨o1,o2,o3⟩,hT⟩:=hT
   refine zA hX ?_
   refine zCond rfl rfl (fun hc => ?_) (fun hc => ?_)
   .replace hT:=sT hc hT
    refine zA hX ?_
    refine rRet (rInRet (rThenRet (rThenRet ?_)))
    exact zTo [] 0 hε (hxs10 _ (houts1 _ (sJ hT).symm))
   .replace hT:=sF hc hT
    refine rSkip (rInNormal (rThen ?_))
    replace hT:=sIf hT;obtain⟨o1,hT⟩:=hT
    refine zReg md0 hX rfl rfl rfl ?_
    exact hnexts1 _ (sJ hT).symm _ (To.mk' [] 0 hε rfl zL zL)
  .replace hT:=sF hc hT
   refine rExit (rThenExit (rThenExit ?_))
   exact zTo [] 0 hε (hxs11 _ (houts1 _ (sJ hT).symm))
 .cases h
def formats_Size(N:Nat)(a1:Int):Option (Int×Int×Bool):=
 bif(decide (a1=1))then
  some (128,96,true)
 else
  bif(decide (a1=2))then
   some (176,144,true)
  else
   bif(decide (a1=3))then
    some (352,288,true)
   else
    bif(decide (a1=4))then
     some (704,576,true)
    else
     bif(decide (a1=5))then
      some (1408,1152,true)
     else
      bif(decide (a1=6))then
       some (32,32,true)
      else
       some (0,0,false)
def sp_formats_Size(N:Nat):X.Spec:=fun args lk=>match args with
 | [.v (.c (.int .i64 a1))]=>some ⟨(formats_Size N a1).isSome=true,.tup [.c (.int .i64 ((formats_Size N a1).getD default).1),.c (.int .i64 ((formats_Size N a1).getD default).2.1),.c (.bool ((formats_Size N a1).getD default).2.2)],[],[]⟩
 | _=>none
theorem ok_formats_Size(N:Nat):FnOK Tryz.prog gt0 35 (sp_formats_Size N):=by
 refine fnOK_handed Tryz.func35 rfl (by kernel_rfl) tt_ok (ktNil) ?_
 intro args lk r h hp
 unfold sp_formats_Size at h
 split at h
 .rename_i a1
  cases h
  obtain⟨x,hT⟩:=sX hp;clear hp
  simp only[hT,Option.getD_some]
  refine hand0 rfl rfl fun w0 M ε0 hX=>rCount fun hε => ?_
  unfold formats_Size at hT
  refine zA hX ?_
  refine rSeq (zA hX ?_)
  refine rBlock (zA hX ?_)
  refine zCond rfl rfl (fun hc => ?_) (fun hc => ?_)
  .replace hT:=sT hc hT
   refine zA hX ?_
   refine rRet (rInRet (rThenRet ?_))
   have hy:=sJ hT;subst hy
   exact zEnd0 hX rfl
  .replace hT:=sF hc hT
   refine zA hX ?_
   refine zCond rfl rfl (fun hc => ?_) (fun hc => ?_)
   .replace hT:=sT hc hT
    refine zA hX ?_
    refine rRet (rInRet (rThenRet ?_))
    have hy:=sJ hT;subst hy
    exact zEnd0 hX rfl
   .replace hT:=sF hc hT
    refine zA hX ?_
    refine zCond rfl rfl (fun hc => ?_) (fun hc => ?_)
    .replace hT:=sT hc hT
     refine zA hX ?_
     refine rRet (rInRet (rThenRet ?_))
     have hy:=sJ hT;subst hy
     exact zEnd0 hX rfl
    .replace hT:=sF hc hT
     refine zA hX ?_
     refine zCond rfl rfl (fun hc => ?_) (fun hc => ?_)
     .replace hT:=sT hc hT
      refine zA hX ?_
      refine rRet (rInRet (rThenRet ?_))
      have hy:=sJ hT;subst hy
      exact zEnd0 hX rfl
     .replace hT:=sF hc hT
      refine zA hX ?_
      refine zCond rfl rfl (fun hc => ?_) (fun hc => ?_)
      .replace hT:=sT hc hT
       refine zA hX ?_
       refine rRet (rInRet (rThenRet ?_))
       have hy:=sJ hT;subst hy
       exact zEnd0 hX rfl
      .replace hT:=sF hc hT
       refine zA hX ?_
       refine zCond rfl rfl (fun hc => ?_) (fun hc => ?_)
       .replace hT:=sT hc hT
        refine zA hX ?_
        refine rRet (rInRet (rThenRet ?_))
        have hy:=sJ hT;subst hy
        exact zEnd0 hX rfl
       .replace hT:=sF hc hT
        refine rSkip (rInNormal (rThen (zA hX ?_)))
        refine rRet ?_
        have hy:=sJ hT;subst hy
        exact zEnd0 hX rfl
 .cases h
def formats_Plane(N:Nat)(a1:Int)(a2:Int):Option (Int×Int):=
 let c1:=(formats_Size N a1)
 if c1.isSome=true then
  bif(decide (a2=0))then
   some ((c1.getD default).1,(c1.getD default).2.1)
  else
   bif(bif(decide (a2=1))then(decide (a2=1))else(decide (a2=2)))then
    if(0:Int)<=(c1.getD default).1/\(0:Int)<=(c1.getD default).2.1 then
     some (((c1.getD default).1/2),((c1.getD default).2.1/2))
    else none
   else
    some (0,0)
 else none
def sp_formats_Plane(N:Nat):X.Spec:=fun args lk=>match args with
 | [.v (.c (.int .i64 a1)),.v (.c (.int .i64 a2))]=>some ⟨(formats_Plane N a1 a2).isSome=true,.tup [.c (.int .i64 ((formats_Plane N a1 a2).getD default).1),.c (.int .i64 ((formats_Plane N a1 a2).getD default).2)],[],[]⟩
 | _=>none
theorem ok_formats_Plane(N:Nat):FnOK Tryz.prog gt0 36 (sp_formats_Plane N):=by
 refine fnOK_handed Tryz.func36 rfl (by kernel_rfl) tt_ok (ktCons (ok_formats_Size N) (ktNil)) ?_
 intro args lk r h hp
 unfold sp_formats_Plane at h
 split at h
 .rename_i a1 a2
  cases h
  obtain⟨x,hT⟩:=sX hp;clear hp
  simp only[hT,Option.getD_some]
  refine hand0 rfl rfl fun w0 M ε0 hX=>rCount fun hε => ?_
  unfold formats_Plane at hT
  refine zA hX ?_
  let c1:=(formats_Size N a1)
  replace hT:=sIf hT;obtain⟨o1,hT⟩:=hT
  refine zA hX ?_
  refine rSeq (zA hX ?_)
  refine rBlock (zA hX ?_)
  refine zCond rfl rfl (fun hc => ?_) (fun hc => ?_)
  .replace hT:=sT hc hT
   refine zA hX ?_
   refine rRet (rInRet (rThenRet ?_))
   have hy:=sJ hT;subst hy
   exact zEnd0 hX rfl
  .replace hT:=sF hc hT
   refine rSeq (zA hX ?_)
   refine rJoin ⟨[(4,.v (.c (.int .i64 0))),(5,.v (.c (.int .i64 0))),(6,.v (.c (.int .i64 (c1.getD default).1))),(7,.v (.c (.int .i64 (c1.getD default).2.1))),(20,.v (.c (.bool (bif(decide (a2=1))then(decide (a2=1))else(decide (a2=2))))))],[],0⟩ ?_ (fun hj => ?_)
   .refine rThen ?_
    refine zCond rfl rfl (fun hc => ?_) (fun hc => ?_)
    .replace hT:=sT hc hT
     replace hT:=sIf hT;obtain⟨⟨o1,o2⟩,hT⟩:=hT
     refine zA hX ?_
     refine rRet (rInRet (rThenRet ?_))
     have hy:=sJ hT;subst hy
     exact zEnd0 hX rfl
    .replace hT:=sF hc hT
     refine rSkip (rInNormal (rThen (zA hX ?_)))
     refine rRet ?_
     have hy:=sJ hT;subst hy
     exact zEnd0 hX rfl
   .clear hT
    refine zCond rfl rfl (fun hc => ?_) (fun hc => ?_)
    .refine rSkip ?_
     exact rTo (To.mk' [] 0 hε rfl zJ zJ) hj
    .refine zReg md0 hX rfl rfl rfl ?_
     exact rTo (To.mk' [] 0 hε rfl zJ zJ) hj
 .cases h
def whole_Clip(N:Nat)(a1:Int)(a2:Int)(a3:Int):Option Int:=
 bif(bif(decide (a3<a2))then(decide (a3<a2))else(decide (a1<a2)))then
  some a2
 else
  bif(decide (a3<a1))then
   some a3
  else
   some a1
def sp_whole_Clip(N:Nat):X.Spec:=fun args lk=>match args with
 | [.v (.c (.int .i64 a1)),.v (.c (.int .i64 a2)),.v (.c (.int .i64 a3))]=>some ⟨(whole_Clip N a1 a2 a3).isSome=true,.v (.c (.int .i64 ((whole_Clip N a1 a2 a3).getD default))),[],[]⟩
 | _=>none
theorem ok_whole_Clip(N:Nat):FnOK Tryz.prog gt0 38 (sp_whole_Clip N):=by
 refine fnOK_handed Tryz.func38 rfl (by kernel_rfl) tt_ok (ktNil) ?_
 intro args lk r h hp
 unfold sp_whole_Clip at h
 split at h
 .rename_i a1 a2 a3
  cases h
  obtain⟨x,hT⟩:=sX hp;clear hp
  simp only[hT,Option.getD_some]
  refine hand0 rfl rfl fun w0 M ε0 hX=>rCount fun hε => ?_
  unfold whole_Clip at hT
  refine zA hX ?_
  refine rSeq (rBlock (rSeq (zA hX ?_)))
  refine rJoin ⟨[(0,.v (.c (.int .i64 a1))),(1,.v (.c (.int .i64 a2))),(2,.v (.c (.int .i64 a3))),(6,.v (.c (.int .i64 0))),(7,.v (.c (.bool (bif(decide (a3<a2))then(decide (a3<a2))else(decide (a1<a2))))))],[],0⟩ ?_ (fun hj => ?_)
  .refine rThen ?_
   refine zCond rfl rfl (fun hc => ?_) (fun hc => ?_)
   .replace hT:=sT hc hT
    refine zA hX ?_
    refine rRet (rInRet (rThenRet ?_))
    have hy:=sJ hT;subst hy
    exact zEnd0 hX rfl
   .replace hT:=sF hc hT
    refine zA hX ?_
    refine zCond rfl rfl (fun hc => ?_) (fun hc => ?_)
    .replace hT:=sT hc hT
     refine zA hX ?_
     refine rRet (rInRet (rThenRet ?_))
     have hy:=sJ hT;subst hy
     exact zEnd0 hX rfl
    .replace hT:=sF hc hT
     refine rSkip (rInNormal (rThen (zA hX ?_)))
     refine rRet ?_
     have hy:=sJ hT;subst hy
     exact zEnd0 hX rfl
  .clear hT
   refine zCond rfl rfl (fun hc => ?_) (fun hc => ?_)
   .refine rSkip ?_
    exact rTo (To.mk' [] 0 hε rfl zJ zJ) hj
   .refine zReg md0 hX rfl rfl rfl ?_
    exact rTo (To.mk' [] 0 hε rfl zJ zJ) hj
 .cases h
def math_bits_Mul64(N:Nat)(a1:Int)(a2:Int):Option (Int×Int):=
 if(0:Int)<=a1 then
  if(0:Int)<=a2 then
   let x1:=(((Int.toNat a1 &&& Int.toNat 4294967295:Nat):Int)*((Int.toNat a2 &&& Int.toNat 4294967295:Nat):Int))
   if inK .u64 (((Int.toNat a1 &&& Int.toNat 4294967295:Nat):Int)*((Int.toNat a2 &&& Int.toNat 4294967295:Nat):Int))then
    let x2:=(((a1/2 ^ (Int.toNat 32))*((Int.toNat a2 &&& Int.toNat 4294967295:Nat):Int))+(x1/2 ^ (Int.toNat 32)))
    if inK .u64 ((a1/2 ^ (Int.toNat 32))*((Int.toNat a2 &&& Int.toNat 4294967295:Nat):Int))/\inK .u64 (((a1/2 ^ (Int.toNat 32))*((Int.toNat a2 &&& Int.toNat 4294967295:Nat):Int))+(x1/2 ^ (Int.toNat 32)))then
     if(0:Int)<=x2 then
      let x3:=(((Int.toNat x2 &&& Int.toNat 4294967295:Nat):Int)+(((Int.toNat a1 &&& Int.toNat 4294967295:Nat):Int)*(a2/2 ^ (Int.toNat 32))))
      if inK .u64 (((Int.toNat a1 &&& Int.toNat 4294967295:Nat):Int)*(a2/2 ^ (Int.toNat 32)))/\inK .u64 (((Int.toNat x2 &&& Int.toNat 4294967295:Nat):Int)+(((Int.toNat a1 &&& Int.toNat 4294967295:Nat):Int)*(a2/2 ^ (Int.toNat 32))))then
       let x4:=((((a1/2 ^ (Int.toNat 32))*(a2/2 ^ (Int.toNat 32)))+(x2/2 ^ (Int.toNat 32)))+(x3/2 ^ (Int.toNat 32)))
       if inK .u64 ((a1/2 ^ (Int.toNat 32))*(a2/2 ^ (Int.toNat 32)))/\inK .u64 (((a1/2 ^ (Int.toNat 32))*(a2/2 ^ (Int.toNat 32)))+(x2/2 ^ (Int.toNat 32)))/\inK .u64 ((((a1/2 ^ (Int.toNat 32))*(a2/2 ^ (Int.toNat 32)))+(x2/2 ^ (Int.toNat 32)))+(x3/2 ^ (Int.toNat 32)))then
        if inK .u64 (a1*a2)then
         some (x4,(a1*a2))
        else none
       else none
      else none
     else none
    else none
   else none
  else none
 else none
def sp_math_bits_Mul64(N:Nat):X.Spec:=fun args lk=>match args with
 | [.v (.c (.int .u64 a1)),.v (.c (.int .u64 a2))]=>some ⟨(math_bits_Mul64 N a1 a2).isSome=true,.tup [.c (.int .u64 ((math_bits_Mul64 N a1 a2).getD default).1),.c (.int .u64 ((math_bits_Mul64 N a1 a2).getD default).2)],[],[]⟩
 | _=>none
theorem ok_math_bits_Mul64(N:Nat):FnOK Tryz.prog gt0 97 (sp_math_bits_Mul64 N):=by
 refine fnOK_handed Tryz.func97 rfl (by kernel_rfl) tt_ok (ktNil) ?_
 intro args lk r h hp
 unfold sp_math_bits_Mul64 at h
 split at h
 .rename_i a1 a2
  cases h
  obtain⟨x,hT⟩:=sX hp;clear hp
  simp only[hT,Option.getD_some]
  refine hand0 rfl rfl fun w0 M ε0 hX=>rCount fun hε => ?_
  unfold math_bits_Mul64 at hT
  refine zA hX ?_
  replace hT:=sIf hT;obtain⟨o1,hT⟩:=hT
  refine zA hX ?_
  refine zA hX ?_
  replace hT:=sIf hT;obtain⟨o1,hT⟩:=hT
  refine zA hX ?_
  refine zA hX ?_
  let x1:=(((Int.toNat a1 &&& Int.toNat 4294967295:Nat):Int)*((Int.toNat a2 &&& Int.toNat 4294967295:Nat):Int))
  replace hT:=sIf hT;obtain⟨o1,hT⟩:=hT
  refine zA hX ?_
  let x2:=(((a1/2 ^ (Int.toNat 32))*((Int.toNat a2 &&& Int.toNat 4294967295:Nat):Int))+(x1/2 ^ (Int.toNat 32)))
  replace hT:=sIf hT;obtain⟨⟨o1,o2⟩,hT⟩:=hT
  refine zA hX ?_
  replace hT:=sIf hT;obtain⟨o1,hT⟩:=hT
  refine zA hX ?_
  refine zA hX ?_
  let x3:=(((Int.toNat x2 &&& Int.toNat 4294967295:Nat):Int)+(((Int.toNat a1 &&& Int.toNat 4294967295:Nat):Int)*(a2/2 ^ (Int.toNat 32))))
  replace hT:=sIf hT;obtain⟨⟨o1,o2⟩,hT⟩:=hT
  refine zA hX ?_
  let x4:=((((a1/2 ^ (Int.toNat 32))*(a2/2 ^ (Int.toNat 32)))+(x2/2 ^ (Int.toNat 32)))+(x3/2 ^ (Int.toNat 32)))
  replace hT:=sIf hT;obtain⟨⟨o1,o2,o3⟩,hT⟩:=hT
  refine zA hX ?_
  replace hT:=sIf hT;obtain⟨o1,hT⟩:=hT
  refine zA hX ?_
  refine rRet ?_
  have hy:=sJ hT;subst hy
  exact zEnd0 hX rfl
 .cases h
def math_bits_Mul(N:Nat)(a1:Int)(a2:Int):Option (Int×Int):=
 let c1:=(math_bits_Mul64 N a1 a2)
 if c1.isSome=true then
  some ((c1.getD default).1,(c1.getD default).2)
 else none
def sp_math_bits_Mul(N:Nat):X.Spec:=fun args lk=>match args with
 | [.v (.c (.int .u64 a1)),.v (.c (.int .u64 a2))]=>some ⟨(math_bits_Mul N a1 a2).isSome=true,.tup [.c (.int .u64 ((math_bits_Mul N a1 a2).getD default).1),.c (.int .u64 ((math_bits_Mul N a1 a2).getD default).2)],[],[]⟩
 | _=>none
theorem ok_math_bits_Mul(N:Nat):FnOK Tryz.prog gt0 61 (sp_math_bits_Mul N):=by
 refine fnOK_handed Tryz.func61 rfl (by kernel_rfl) tt_ok (ktCons (ok_math_bits_Mul64 N) (ktNil)) ?_
 intro args lk r h hp
 unfold sp_math_bits_Mul at h
 split at h
 .rename_i a1 a2
  cases h
  obtain⟨x,hT⟩:=sX hp;clear hp
  simp only[hT,Option.getD_some]
  refine hand0 rfl rfl fun w0 M ε0 hX=>rCount fun hε => ?_
  unfold math_bits_Mul at hT
  refine zA hX ?_
  refine rSeq (rCondF rfl rfl zP rfl ?_)
  refine rSkip (rThen ?_)
  let c1:=(math_bits_Mul64 N a1 a2)
  replace hT:=sIf hT;obtain⟨o1,hT⟩:=hT
  refine zA hX ?_
  refine zA hX ?_
  refine rRet ?_
  have hy:=sJ hT;subst hy
  exact zEnd0 hX rfl
 .cases h
/-- So many times the same byte. -/
def rep(N:Nat)(a1:Nat)(a2:Int)(a3:List Int):Option (Nat×Nat×List Int):=
 if a1=1/\a3.length=1/\0<=a2/\a2<=281474976710656/\inK .u8 (a3.getD 0 0)then some (a2.toNat,a2.toNat,List.replicate a2.toNat (a3.getD 0 0))else none
def bytes_Repeat_own_b1(N:Nat) (c1:(Option (Int×Int))) (x2:Int) (s1:(Int×(List Int))):Option ((Int×(List Int))⊕(List Int)):=
 bif(decide (s1.1<(c1.getD default).2))then
  let x4:=(s1.1+(((min (min s1.1 x2).toNat (((c1.getD default).2.toNat:Int)-s1.1).toNat):Nat):Int))
  let x6:=(layL s1.2 (s1.1).toNat ((s1.2.take (min s1.1 x2).toNat).take (min (min s1.1 x2).toNat (((c1.getD default).2.toNat:Int)-s1.1).toNat)) (min (min s1.1 x2).toNat (((c1.getD default).2.toNat:Int)-s1.1).toNat))
  if(0:Int)<=s1.1/\s1.1<=((c1.getD default).2.toNat:Int)/\((c1.getD default).2.toNat:Int)<=((c1.getD default).2.toNat:Int)/\(0:Int)<=(min s1.1 x2)/\(min s1.1 x2)<=((c1.getD default).2.toNat:Int)/\(min s1.1 x2).toNat<=(c1.getD default).2.toNat/\(s1.1).toNat+(min (min s1.1 x2).toNat (((c1.getD default).2.toNat:Int)-s1.1).toNat)<=(c1.getD default).2.toNat/\inK .i64 (s1.1+(((min (min s1.1 x2).toNat (((c1.getD default).2.toNat:Int)-s1.1).toNat):Nat):Int))then
   some (.inl (x4,x6))
  else none
 else
  some (.inr s1.2)
def bytes_Repeat_own(hv:Nat->(List Int->Option Zt7)->Option Zt7)(N:Nat)(a1:Nat)(a2:Int)(a3:(List Int)):Option Zt7:=
 bif(decide (a2=0))then
  some (0,0,(List.replicate 0 0))
 else
  bif(decide (a2<0))then
   none
  else
   let c1:=(math_bits_Mul N (a1:Int) a2)
   if inK .u64 (a1:Int)/\inK .u64 a2/\c1.isSome=true then
    let x1:=(bif(decide ((0:Int)<(c1.getD default).1))then true else(decide ((9223372036854775807:Int)<(c1.getD default).2)))
    bif x1 then
     none
    else
     if inK .i64 (c1.getD default).2 then
      bif(decide ((a1:Int)=0))then
       some (0,0,(List.replicate 0 0))
      else
       if((decide ((8192:Int)<(c1.getD default).2))=true->(0:Int)<(a1:Int))/\((decide ((8192:Int)<(c1.getD default).2))=true->inK .i64 (((8192:Int)/(a1:Int))*(a1:Int)))then
        let x2:=(bif(decide ((8192:Int)<(c1.getD default).2))then(bif(decide ((((8192:Int)/(a1:Int))*(a1:Int))=0))then(a1:Int)else(((8192:Int)/(a1:Int))*(a1:Int)))else(c1.getD default).2)
        if 0<=(c1.getD default).2/\(c1.getD default).2<=281474976710656 then
         hv (c1.getD default).2.toNat fun(z1:List Int)=>
          let x3:=(layL z1 0 ((a3.take a1).take (min a1 (c1.getD default).2.toNat)) (min a1 (c1.getD default).2.toNat))
          if a1<=1/\0+(min a1 (c1.getD default).2.toNat)<=(c1.getD default).2.toNat then
           (iter (bytes_Repeat_own_b1 N c1 x2) N ((((min a1 (c1.getD default).2.toNat):Nat):Int),x3)).bind fun v1=>
            some ((c1.getD default).2.toNat,(c1.getD default).2.toNat,v1)
          else none
        else none
       else none
     else none
   else none
def sp_bytes_Repeat_own(hv:Nat->(List Int->Option Zt7)->Option Zt7)(N:Nat):X.Spec:=fun args lk=>match args with
 | [.v (.c (.sl i0 0 a1 1)),.v (.c (.int .i64 a2))]=>(match lk i0 with
  | some (.mem _ _ _ (.flat [.ints 1 .u8 a3]))=>some ⟨(bytes_Repeat_own hv N a1 a2 a3).isSome=true,.v (.c (.sl 0 0 ((bytes_Repeat_own hv N a1 a2 a3).getD default).1 1)),[.mem true 5 (some 0) (.flat [.ints ((bytes_Repeat_own hv N a1 a2 a3).getD default).2.1 .u8 ((bytes_Repeat_own hv N a1 a2 a3).getD default).2.2])],[]⟩
  | _=>none)
 | _=>none
def sp_rep(N:Nat):X.Spec:=fun args lk=>match args with
 | [.v (.c (.sl i0 0 a1 1)),.v (.c (.int .i64 a2))]=>(match lk i0 with
  | some (.mem _ _ _ (.flat [.ints 1 .u8 a3]))=>some ⟨(rep N a1 a2 a3).isSome=true,.v (.c (.sl 0 0 ((rep N a1 a2 a3).getD default).1 1)),[.mem true 5 (some 0) (.flat [.ints ((rep N a1 a2 a3).getD default).2.1 .u8 ((rep N a1 a2 a3).getD default).2.2])],[]⟩
  | _=>none)
 | _=>none
theorem ok_bytes_Repeat_own(hv:Nat->(List Int->Option Zt7)->Option Zt7)(hHv:∀n k x,hv n k=some x->∀zs:List Int,zs.length=n->(∀x∈zs,inK .u8 x)->k zs=some x)(N:Nat):FnOK Tryz.prog gt0 37 (sp_bytes_Repeat_own hv N):=by
 refine fnOK_handed Tryz.func37 rfl (by kernel_rfl) tt_ok (ktCons (ok_math_bits_Mul N) (ktNil)) ?_
 intro args lk r h hp
 unfold sp_bytes_Repeat_own at h
 split at h
 .rename_i i0 a1 a2
  split at h
  .rename_i _ _ _ a3 hl0
   change (List Int)at a3
   cases h
   obtain⟨x,hT⟩:=sX hp;clear hp
   simp only[hT,Option.getD_some]
   refine handL [i0] 1 [(0,.mem false 5 none (.flat [.ints 1 .u8 a3]))] [.v (.c (.sl 0 0 a1 1)),.v (.c (.int .i64 a2))] rfl rfl rfl ⟨isSome_of hl0,trivial⟩ ⟨⟨rfl,zT,_,hl0,sub_ro⟩,trivial⟩ rfl (fun w0 M ε0 hX => ?_)
   refine rCount (fun hε => ?_)
   unfold bytes_Repeat_own at hT
   refine zA hX ?_
   refine rSeq (zA hX ?_)
   refine zCond rfl rfl (fun hc => ?_) (fun hc => ?_)
   .replace hT:=sT hc hT
    refine zA hX ?_
    refine rRet (rThenRet (rTail0Q 1 rfl rfl ?_))
    have hy:=sJ hT;subst hy
    exact rEndA [1] [.mem true 5 (some 0) (.flat [.ints 0 .u8 (List.replicate 0 0)])] [] (.v (.c (.sl 1 0 0 1))) hX rfl zZ zL rfl rfl rfl zT rfl rfl zT rfl rfl
   .replace hT:=sF hc hT
    refine rSkip (rThen (rSeq (zA hX ?_)))
    refine zCond rfl rfl (fun hc => ?_) (fun hc => ?_)
    .replace hT:=sT hc hT
     cases hT
    .replace hT:=sF hc hT
     refine rSkip (rThen ?_)
     let c1:=(math_bits_Mul N (a1:Int) a2)
     replace hT:=sIf hT;obtain⟨⟨o1,o2,o3⟩,hT⟩:=hT
     refine zA hX ?_
     refine rSeq ?_
     let x1:=(bif(decide ((0:Int)<(c1.getD default).1))then true else(decide ((9223372036854775807:Int)<(c1.getD default).2)))
     refine zA hX ?_
     refine zCond rfl rfl (fun hc => ?_) (fun hc => ?_)
     .replace hT:=sT hc hT
      cases hT
     .replace hT:=sF hc hT
      refine rSkip (rThen ?_)
      replace hT:=sIf hT;obtain⟨o1,hT⟩:=hT
      refine zA hX ?_
      refine rSeq (zA hX ?_)
      refine zCond rfl rfl (fun hc => ?_) (fun hc => ?_)
      .replace hT:=sT hc hT
       refine zA hX ?_
       refine rRet (rThenRet (rTail0Q 1 rfl rfl ?_))
       have hy:=sJ hT;subst hy
       exact rEndA [1] [.mem true 5 (some 0) (.flat [.ints 0 .u8 (List.replicate 0 0)])] [] (.v (.c (.sl 1 0 0 1))) hX rfl zZ zL rfl rfl rfl zT rfl rfl zT rfl rfl
      .replace hT:=sF hc hT
       refine rSkip (rThen (zA hX ?_))
       refine rSeq (zA hX ?_)
       replace hT:=sIf hT;obtain⟨⟨q1,q2⟩,hT⟩:=hT
       refine rJoin ⟨[(0,.v (.c (.sl 0 0 a1 1))),(4,.v (.c (.val (.slice none 0 0)))),(7,.v (.c (.int .i64 (c1.getD default).2))),(8,.v (.c (.int .i64 (bif(decide ((8192:Int)<(c1.getD default).2))then(bif(decide ((((8192:Int)/(a1:Int))*(a1:Int))=0))then(a1:Int)else(((8192:Int)/(a1:Int))*(a1:Int)))else(c1.getD default).2))))],[(0,.mem false 5 none (.flat [.ints 1 .u8 a3]))],1⟩ ?_ (fun hj => ?_)
       .let x2:=(bif(decide ((8192:Int)<(c1.getD default).2))then(bif(decide ((((8192:Int)/(a1:Int))*(a1:Int))=0))then(a1:Int)else(((8192:Int)/(a1:Int))*(a1:Int)))else(c1.getD default).2)
        refine rThen (rSeq (rRegSL ?_))
        replace hT:=sIf hT;obtain⟨⟨n1,n2⟩,hT⟩:=hT
        refine rSLCut md0 1 hX rfl rfl rfl zP ?_
        refine rNoZero (fn:=Tryz.f62) (ps := #[3]) (t':=22) hX rfl rfl rfl rfl rfl rfl rfl rfl rfl rfl rfl rfl rfl rfl rfl n1 n2 Tryz.func62 (by kernel_rfl) (by kernel_rfl) (by kernel_rfl) (by kernel_rfl) (by kernel_rfl) rfl rfl rfl rfl rfl rfl (fun z1 h1z1 h2z1 => ?_)
        replace hT:=hHv _ _ _ hT z1 h1z1 h2z1
        refine rSLDone md0 hX rfl rfl rfl zP ?_
        refine rThen ?_
        let x3:=(layL z1 0 ((a3.take a1).take (min a1 (c1.getD default).2.toNat)) (min a1 (c1.getD default).2.toNat))
        replace hT:=sIf hT;obtain⟨⟨o1,o2⟩,hT⟩:=hT
        refine zA hX ?_
        refine rSeq (rBlock ?_)
        replace hT:=sBind hT;obtain⟨w1,hl,hT⟩:=hT
        refine rJoinA (fun v1=>v1=w1) (fun v1=>⟨[(4,.v (.c (.val (.slice none 0 0)))),(9,.v (.c (.sl 1 0 (c1.getD default).2.toNat 1)))],[(0,.mem false 5 none (.flat [.ints 1 .u8 a3])),(1,.mem true 5 (some 0) (.flat [.ints (c1.getD default).2.toNat .u8 v1]))],2⟩) (.exit 0) (fun v1 hv => ?_) (fun hxs10 => ?_)
        .subst hv;clear hl
         refine rInHit (rThen (zA hX ?_))
         refine rRet ?_
         have hy:=sJ hT;subst hy
         exact rEndA [1] [.mem true 5 (some 0) (.flat [.ints (c1.getD default).2.toNat .u8 v1])] [] (.v (.c (.sl 1 0 (c1.getD default).2.toNat 1))) hX rfl zZ zL rfl rfl rfl zT rfl rfl zT rfl rfl
        refine rLoopM (bytes_Repeat_own_b1 N c1 x2) (fun s1=>⟨[(4,.v (.c (.val (.slice none 0 0)))),(7,.v (.c (.int .i64 (c1.getD default).2))),(8,.v (.c (.int .i64 x2))),(9,.v (.c (.sl 1 0 (c1.getD default).2.toNat 1))),(10,.v (.c (.int .i64 s1.1)))],[(0,.mem false 5 none (.flat [.ints 1 .u8 a3])),(1,.mem true 5 (some 0) (.flat [.ints (c1.getD default).2.toNat .u8 s1.2]))],2⟩) hl (To.mk' [] 1 hε rfl zL zL) (fun s1 zs1 NNs1 hz hnexts1 houts1 => ?_)
        clear hl hT
        have hT:=hz;clear hz
        refine rSeq (zA hX ?_)
        refine zCond rfl rfl (fun hc => ?_) (fun hc => ?_)
        .replace hT:=sT hc hT
         refine rSkip (rThen (rBlock (zA hX ?_)))
         let x4:=(s1.1+(((min (min s1.1 x2).toNat (((c1.getD default).2.toNat:Int)-s1.1).toNat):Nat):Int))
         let x6:=(layL s1.2 (s1.1).toNat ((s1.2.take (min s1.1 x2).toNat).take (min (min s1.1 x2).toNat (((c1.getD default).2.toNat:Int)-s1.1).toNat)) (min (min s1.1 x2).toNat (((c1.getD default).2.toNat:Int)-s1.1).toNat))
         replace hT:=sIf hT;obtain⟨⟨o1,o2,o3,o4,o5,o6,o7,o8⟩,hT⟩:=hT
         refine rDrawA md0 0 7 8 [] hX mixed rfl rfl rfl rfl rfl rfl rfl rfl rfl rfl rfl rfl rfl rfl rfl zL rfl rfl zP ?_
         refine rInNormal ?_
         exact hnexts1 _ (sJ hT).symm _ (To.mk' [] 1 hε rfl zL zL)
        .replace hT:=sF hc hT
         refine rExit (rThenExit (rThenExit ?_))
         exact zTo [] 1 hε (hxs10 _ (houts1 _ (sJ hT).symm))
       .clear hT
        refine zCond rfl rfl (fun hc => ?_) (fun hc => ?_)
        .have q1:=q1 hc
         have q2:=q2 hc
         refine zA hX ?_
         refine zA hX ?_
         refine zCond rfl rfl (fun hc => ?_) (fun hc => ?_)
         .refine zReg md0 hX rfl rfl rfl ?_
          exact rTo (To.mk' [] 1 hε rfl zJ zJ) hj
         .refine rSkip ?_
          exact rTo (To.mk' [] 1 hε rfl zJ zJ) hj
        .refine rSkip ?_
         exact rTo (To.mk' [] 1 hε rfl zJ zJ) hj
  .cases h
 .cases h
theorem mul_one(N:Nat){n:Int}(h0:0<=n)(h1:n<=281474976710656):math_bits_Mul N 1 n=some (0,n):=by
 obtain⟨m,rfl⟩:∃m:Nat,n=m:=⟨n.toNat,by omega⟩
 have e1:(Int.toNat 1 &&& Int.toNat 4294967295:Nat)=1:=by decide
 have e2:(Int.toNat (m:Int) &&& Int.toNat 4294967295:Nat)=m%4294967296:=Nat.and_two_pow_sub_one_eq_mod m 32
 have e3:((1:Int)/4294967296)=0:=by decide
 have e6:((1:Nat):Int)=1:=rfl
 have e4:((2:Int) ^ Int.toNat 32)=4294967296:=by decide
 have e5:(Int.toNat 0 &&& Int.toNat 4294967295:Nat)=0:=by decide
 have hm:((m%4294967296:Nat):Int)/4294967296=0:=by omega
 have hd:(m:Int)/4294967296/4294967296=0:=by omega
 have h64:math_bits_Mul64 N 1 (m:Int)=some (0,(m:Int)):=by
  simp only[math_bits_Mul64,e1,e2,e3,e4,e5,e6,Int.one_mul,Int.zero_mul,Int.zero_add,Int.add_zero,hm,hd,Int.natCast_nonneg,Int.ofNat_zero,Int.zero_ediv,inK]
  rw[if_pos (by omega),if_pos trivial,if_pos ⟨trivial,by omega⟩,if_pos (by omega),if_pos (by omega),if_pos (by omega),if_pos (by omega),if_pos ⟨trivial,by omega⟩]
 simp only[math_bits_Mul,h64,Option.isSome_some,if_true,Option.getD_some]
theorem rep_loop(N:Nat){n x2 b:Int}(hx:1<=x2):∀(f:Nat) (k:Int) (zs:List Int),1<=k->k<=n->n<=281474976710656->(zs.length:Int)=n->zs.take k.toNat=List.replicate k.toNat b->n-k<f->iter (bytes_Repeat_own_b1 N (some (0,n)) x2) f (k,zs)=some (List.replicate n.toNat b)
 | 0,k,zs,h1,h2,h3,h4,h5,h6=>by omega
 | f+1,k,zs,h1,h2,h3,h4,h5,h6=>by
  by_cases hk:k<n
  .have hb:∃k' zs',bytes_Repeat_own_b1 N (some (0,n)) x2 (k,zs)=some (.inl (k',zs'))/\k<k'/\k'<=n/\(zs'.length:Int)=n/\zs'.take k'.toNat=List.replicate k'.toNat b:=by
    obtain⟨m,hm⟩:∃m:Nat,m=min (min k x2).toNat ((n.toNat:Int)-k).toNat:=⟨_,rfl⟩
    have g1:m<=k.toNat:=by omega
    have g2:k.toNat+m<=n.toNat:=by omega
    have g3:1<=m:=by omega
    refine⟨k+m,layL zs k.toNat ((zs.take (min k x2).toNat).take m) m,?_,by omega,by omega,?_,?_⟩
    .simp only[bytes_Repeat_own_b1,Option.getD_some,hk,decide_true,cond_true,<-hm]
     rw[if_pos]
     refine⟨by omega,by omega,by omega,by omega,by omega,by omega,by omega,?_⟩
     unfold inK
     omega
    .unfold layL
     simp only[List.length_append,List.length_take,List.length_drop]
     omega
    .unfold layL
     have e1:(zs.take (min k x2).toNat).take m=List.replicate m b:=by
      rw[List.take_take,show min m (min k x2).toNat=m by omega]
      have:=congrArg (List.take m) h5
      rwa [List.take_take,show min m k.toNat=m by omega,List.take_replicate,show min m k.toNat=m by omega]at this
     rw[e1,h5,show(k+(m:Int)).toNat=k.toNat+m by omega,List.replicate_append_replicate,List.take_left' (by simp)]
   obtain⟨k',zs',e,g1,g2,g3,g4⟩:=hb
   rw[iter,e]
   exact rep_loop N hx f k' zs' (by omega) g2 h3 g3 g4 (by omega)
  .have hkn:k=n:=by omega
   have hb:bytes_Repeat_own_b1 N (some (0,n)) x2 (k,zs)=some (.inr zs):=by
    simp only[bytes_Repeat_own_b1,Option.getD_some,hk,decide_false,cond_false]
   rw[iter,hb]
   have:zs=List.replicate n.toNat b:=by
    rw[<-hkn,<-h5,List.take_of_length_le (by omega)]
   rw[this]
theorem rep_eq{hv:Nat->(List Int->Option Zt7)->Option Zt7} (hHv:∀n k x,(∀zs:List Int,zs.length=n->(∀x∈zs,inK .u8 x)->k zs=some x)->hv n k=some x) {n b:Int} (h0:0<=n) (h1:n<=281474976710656):
  bytes_Repeat_own hv 281474976710657 1 n [b]=some (n.toNat,n.toNat,List.replicate n.toNat b):=by
 unfold bytes_Repeat_own
 by_cases hz:n=0
 .subst hz;rfl
 have hn0:¬n<0:=by omega
 have e1:((1:Nat):Int)=1:=rfl
 simp only[hz,hn0,decide_false,cond_false,e1,mul_one _ h0 h1,Option.isSome_some,Option.getD_some]
 rw[if_pos ⟨by unfold inK;omega,by unfold inK;omega,trivial⟩]
 have hbig:¬(9223372036854775807:Int)<n:=by omega
 simp only[Int.lt_irrefl,decide_false,cond_false,hbig]
 rw[if_pos (by unfold inK;omega)]
 simp only[show ¬((1:Int)=0) by omega,decide_false,cond_false]
 rw[if_pos ⟨fun _=>by omega,fun _=>by decide⟩,if_pos ⟨h0,h1⟩]
 refine hHv _ _ _ fun zs hl hzs => ?_
 have hm:min 1 n.toNat=1:=by omega
 simp only[hm]
 rw[if_pos ⟨by omega,by omega⟩]
 rw[rep_loop (b:=b) _ ?_ _ _ _ (by omega) (by omega) h1 ?_ ?_ (by omega)]
 .rfl
 .cases hd:decide ((8192:Int)<n)
  .simp only[cond_false];omega
  .simp only[cond_true];exact(by decide:(1:Int)<=bif decide ((8192:Int)/1*1=0)then(1:Int)else(8192:Int)/1*1)
 .unfold layL
  simp only[List.length_append,List.length_take,List.length_drop,List.length_cons,List.length_nil]
  omega
 .unfold layL
  simp
theorem ok_rep(N:Nat):FnOK Tryz.prog gt0 37 (sp_rep N):=by
 obtain⟨hv,h1,h2⟩:=havoc_ex (Nat×Nat×List Int)
 refine(ok_bytes_Repeat_own hv h1 281474976710657).weak fun args lk r' h hp => ?_
 unfold sp_rep at h
 split at h
 .rename_i i0 a1 a2
  split at h
  .rename_i _ _ _ a3 hl
   cases h
   change List Int at a3
   by_cases hc:a1=1/\a3.length=1/\0<=a2/\a2<=281474976710656/\inK .u8 (a3.getD 0 0)
   .have hr:rep N a1 a2 a3=some (a2.toNat,a2.toNat,List.replicate a2.toNat (a3.getD 0 0)):=by unfold rep;rw[if_pos hc]
    obtain⟨rfl,hl3,h0,hm,hb⟩:=hc
    match a3,hl3 with
    | [b],_=>
     have e:=rep_eq h2 h0 hm (b:=b)
     refine⟨_,by unfold sp_bytes_Repeat_own;simp only[hl];rfl,?_,?_,?_,?_⟩
     .simp only[e,Option.isSome_some]
     .simp only[e,hr,Option.getD_some]
     .simp only[e,hr,Option.getD_some];rfl
     .rfl
   .exfalso
    have hr:rep N a1 a2 a3=none:=by unfold rep;rw[if_neg hc]
    simp[hr]at hp
  .cases h
 .cases h
def planes_New_b1(N:Nat)(a1:Int)(a2:Int)(s1:Zt14):Option (Zt14⊕(List (List Int))):=
 bif(decide (s1.1<3))then
  let c2:=(formats_Plane N a1 s1.1)
  if c2.isSome=true then
   let c3:=(whole_Clip N a2 0 255)
   let c4:=(rep N 1 ((c2.getD default).1*(c2.getD default).2) ((List.replicate 1 0).set 0 (c3.getD default)))
   if c3.isSome=true/\inK .u8 (c3.getD default)/\inK .i64 ((c2.getD default).1*(c2.getD default).2)/\c4.isSome=true/\(0:Int)<=s1.1/\s1.1<3 then
    if(c4.getD default).1=(c4.getD default).2.2.length then
     if(s1.1).toNat<3 then
      if inK .i64 (s1.1+1)then
       some (.inl ((s1.1+1),(s1.2.set (s1.1).toNat (c4.getD default).2.2)))
      else none
     else none
    else none
   else none
  else none
 else
  some (.inr s1.2)
def planes_New(N:Nat)(a1:Int)(a2:Int):Option Zt12:=
 let c1:=(formats_Size N a1)
 if c1.isSome=true then
  bif(!(c1.getD default).2.2)then
   some (0,(List.replicate 3 []),1)
  else
   (iter (planes_New_b1 N a1 a2) N (0,(List.replicate 3 []))).bind fun v1=>
    some (a1,v1,0)
 else none
def sp_planes_New(N:Nat):X.Spec:=fun args lk=>match args with
 | [.v (.c (.int .i64 a1)),.v (.c (.int .i64 a2))]=>some ⟨(planes_New N a1 a2).isSome=true,.tup [.agg [.cs [.int .i64 ((planes_New N a1 a2).getD default).1],.fzs 3 (.int .u8) ((planes_New N a1 a2).getD default).2.1],.c (.int .i64 ((planes_New N a1 a2).getD default).2.2)],[],[]⟩
 | _=>none
theorem ok_planes_New(N:Nat):FnOK Tryz.prog gt0 17 (sp_planes_New N):=by
 refine fnOK_handed Tryz.func17 rfl (by kernel_rfl) tt_ok (ktCons (ok_rep N) (ktCons (ok_whole_Clip N) (ktCons (ok_formats_Plane N) (ktCons (ok_formats_Size N) (ktNil))))) ?_
 intro args lk r h hp
 unfold sp_planes_New at h
 split at h
 .rename_i a1 a2
  cases h
  obtain⟨x,hT⟩:=sX hp;clear hp
  simp only[hT,Option.getD_some]
  refine hand0 rfl rfl fun w0 M ε0 hX=>rCount fun hε => ?_
  unfold planes_New at hT
  refine zA hX ?_
  refine rSeq ?_
  let c1:=(formats_Size N a1)
  replace hT:=sIf hT;obtain⟨o1,hT⟩:=hT
  refine zA hX ?_
  refine zA hX ?_
  refine zCond rfl rfl (fun hc => ?_) (fun hc => ?_)
  .replace hT:=sT hc hT
   refine zA hX ?_
   refine rRet (rThenRet ?_)
   have hy:=sJ hT;subst hy
   exact zEnd0 hX rfl
  .replace hT:=sF hc hT
   refine rSkip (rThen (zA hX ?_))
   refine rSeq (zA hX ?_)
   refine rBlock ?_
   replace hT:=sBind hT;obtain⟨w1,hl,hT⟩:=hT
   refine rJoinA (fun v1=>v1=w1) (fun v1=>⟨[(4,.v (.c (.ptr 0 0 0 0 0 0))),(5,.v (.c (.int .i64 0))),(9,.v (.c (.ptr 1 0 0 0 0 0)))],[(0,.mem true 25 none (.flat [.cs [.int .i64 0],.fzs 3 (.int .u8) (List.replicate 3 [])])),(1,.mem true 25 none (.flat [.cs [.int .i64 a1],.fzs 3 (.int .u8) v1]))],2⟩) (.exit 0) (fun v1 hv => ?_) (fun hxs10 => ?_)
   .subst hv;clear hl
    refine rInHit (rThen (zA hX ?_))
    refine rRet ?_
    have hy:=sJ hT;subst hy
    exact zEnd0 hX rfl
   refine rLoopM (planes_New_b1 N a1 a2) (fun s1=>⟨[(0,.v (.c (.int .i64 a1))),(1,.v (.c (.int .i64 a2))),(4,.v (.c (.ptr 0 0 0 0 0 0))),(5,.v (.c (.int .i64 0))),(9,.v (.c (.ptr 1 0 0 0 0 0))),(24,.v (.c (.int .i64 s1.1)))],[(0,.mem true 25 none (.flat [.cs [.int .i64 0],.fzs 3 (.int .u8) (List.replicate 3 [])])),(1,.mem true 25 none (.flat [.cs [.int .i64 a1],.fzs 3 (.int .u8) s1.2]))],2⟩) hl (To.mk' [] 0 hε rfl zL zL) (fun s1 zs1 NNs1 hz hnexts1 houts1 => ?_)
   clear hl hT
   have hT:=hz;clear hz
   refine zA hX ?_
   refine rSeq ?_
   refine zCond rfl rfl (fun hc => ?_) (fun hc => ?_)
   .replace hT:=sT hc hT
    refine rSkip (rThen (rSeq (rBlock (zA hX ?_))))
    let c2:=(formats_Plane N a1 s1.1)
    replace hT:=sIf hT;obtain⟨o1,hT⟩:=hT
    refine zA hX ?_
    refine rRegSL ?_
    let c3:=(whole_Clip N a2 0 255)
    let c4:=(rep N 1 ((c2.getD default).1*(c2.getD default).2) ((List.replicate 1 0).set 0 (c3.getD default)))
    replace hT:=sIf hT;obtain⟨⟨o1,o2,o3,o4,o5,o6⟩,hT⟩:=hT
    refine rSLCut md0 11 hX rfl rfl rfl zP ?_
    replace hT:=sIf hT;obtain⟨f1,hT⟩:=hT
    refine rFreezeL 3 (.int .u8) (c4.getD default).2.2 [(0,.v (.c (.int .i64 a1))),(1,.v (.c (.int .i64 a2))),(4,.v (.c (.ptr 0 0 0 0 0 0))),(5,.v (.c (.int .i64 0))),(9,.v (.c (.ptr 1 0 0 0 0 0))),(10,.v (.c (.int .i64 s1.1))),(11,.v (.c (.int .i64 (c2.getD default).1))),(12,.v (.c (.int .i64 (c2.getD default).2))),(24,.v (.c (.int .i64 s1.1))),(25,.v (.c (.bool (decide (s1.1<3))))),(26,.v (.c (.int .i64 s1.1))),(27,.tup [.c (.int .i64 (c2.getD default).1),.c (.int .i64 (c2.getD default).2)]),(28,.v (.c (.int .i64 a1))),(29,.v (.c (.int .i64 s1.1))),(30,.tup [.c (.int .i64 (c2.getD default).1),.c (.int .i64 (c2.getD default).2)]),(31,.v (.c (.int .i64 (c2.getD default).1))),(32,.v (.c (.int .i64 (c2.getD default).2))),(33,.v (.c (.int .i64 s1.1))),(34,.v (.c (.int .i64 a2))),(35,.v (.c (.int .i64 (c3.getD default)))),(36,.v (.c (.int .u8 (c3.getD default)))),(37,.v (.c (.sl 2 0 1 1))),(38,.v (.c (.int .i64 (c2.getD default).1))),(39,.v (.c (.int .i64 (c2.getD default).2))),(40,.v (.c (.int .i64 ((c2.getD default).1*(c2.getD default).2)))),(41,.v (.c (.fz (.int .u8) (c4.getD default).2.2))),(42,.v (.c (.ptr 1 0 0 1 0 0))),(43,.v (.c (.ptr 1 0 0 1 1 (s1.1).toNat)))] [(0,.mem true 25 none (.flat [.cs [.int .i64 0],.fzs 3 (.int .u8) (List.replicate 3 [])])),(1,.mem true 25 none (.flat [.cs [.int .i64 a1],.fzs 3 (.int .u8) s1.2])),(2,.mem true 5 (some 1) (.flat [.ints 1 .u8 ((List.replicate 1 0).set 0 (c3.getD default))]))] rfl rfl zF zF ?_
    replace hT:=sIf hT;obtain⟨o1,hT⟩:=hT
    refine rSLDone md0 hX rfl rfl rfl zP ?_
    refine rInNormal (rThen ?_)
    replace hT:=sIf hT;obtain⟨o1,hT⟩:=hT
    refine zReg md0 hX rfl rfl rfl ?_
    exact hnexts1 _ (sJ hT).symm _ (To.mk' [] 0 hε rfl zL zL)
   .replace hT:=sF hc hT
    refine rExit (rThenExit (rThenExit ?_))
    exact zTo [] 0 hε (hxs10 _ (houts1 _ (sJ hT).symm))
 .cases h
def planes_Right_b1(N:Nat)(a1:Int) (a2:(List (List Int))) (s1:(Bool×Int)):Option ((Bool×Int)⊕Bool):=
 bif(decide (s1.2<3))then
  if(0:Int)<=s1.2/\s1.2<3/\(s1.2).toNat<3 then
   let c2:=(formats_Plane N a1 s1.2)
   if c2.isSome=true then
    let x1:=(bif s1.1 then(decide (((a2.getD (s1.2).toNat []).length:Int)=((c2.getD default).1*(c2.getD default).2)))else false)
    if(s1.1=true->inK .i64 ((c2.getD default).1*(c2.getD default).2))then
     if inK .i64 (s1.2+1)then
      some (.inl (x1,(s1.2+1)))
     else none
    else none
   else none
  else none
 else
  some (.inr s1.1)
def planes_Right(N:Nat)(a1:Int) (a2:(List (List Int))):Option Bool:=
 let c1:=(formats_Size N a1)
 if c1.isSome=true then
  (iter (planes_Right_b1 N a1 a2) N ((c1.getD default).2.2,0)).bind fun v1=>
   some v1
 else none
def sp_planes_Right(N:Nat):X.Spec:=fun args lk=>match args with
 | [.v (.agg [.cs [.int .i64 a1],.fzs 3 (.int .u8) a2])]=>some ⟨(planes_Right N a1 a2).isSome=true,.v (.c (.bool ((planes_Right N a1 a2).getD default))),[],[]⟩
 | _=>none
theorem ok_planes_Right(N:Nat):FnOK Tryz.prog gt0 39 (sp_planes_Right N):=by
 refine fnOK_handed Tryz.func39 rfl (by kernel_rfl) tt_ok (ktCons (ok_formats_Plane N) (ktCons (ok_formats_Size N) (ktNil))) ?_
 intro args lk r h hp
 unfold sp_planes_Right at h
 split at h
 .rename_i a1 a2
  change (List (List Int))at a2
  cases h
  obtain⟨x,hT⟩:=sX hp;clear hp
  simp only[hT,Option.getD_some]
  refine hand0 rfl rfl fun w0 M ε0 hX=>rCount fun hε => ?_
  unfold planes_Right at hT
  refine zA hX ?_
  let c1:=(formats_Size N a1)
  replace hT:=sIf hT;obtain⟨o1,hT⟩:=hT
  refine zA hX ?_
  refine rSeq (zA hX ?_)
  refine rBlock ?_
  replace hT:=sBind hT;obtain⟨w1,hl,hT⟩:=hT
  refine rJoinA (fun v1=>v1=w1) (fun v1=>⟨[(2,.v (.c (.bool false))),(5,.v (.c (.bool v1)))],[],1⟩) (.exit 0) (fun v1 hv => ?_) (fun hxs10 => ?_)
  .subst hv;clear hl
   refine rInHit (rThen (zA hX ?_))
   refine rRet ?_
   have hy:=sJ hT;subst hy
   exact zEnd0 hX rfl
  refine rLoopM (planes_Right_b1 N a1 a2) (fun s1=>⟨[(1,.v (.c (.ptr 0 0 0 0 0 0))),(2,.v (.c (.bool false))),(5,.v (.c (.bool s1.1))),(18,.v (.agg [.fzs 3 (.int .u8) a2])),(19,.v (.c (.int .i64 s1.2)))],[(0,.mem true 25 none (.flat [.cs [.int .i64 a1],.fzs 3 (.int .u8) a2]))],1⟩) hl (To.mk' [] 0 hε rfl zL zL) (fun s1 zs1 NNs1 hz hnexts1 houts1 => ?_)
  clear hl hT
  have hT:=hz;clear hz
  refine zA hX ?_
  refine rSeq ?_
  refine zCond rfl rfl (fun hc => ?_) (fun hc => ?_)
  .replace hT:=sT hc hT
   refine rSkip (rThen (rSeq (rBlock ?_)))
   replace hT:=sIf hT;obtain⟨⟨o1,o2,o3⟩,hT⟩:=hT
   refine zA hX ?_
   let c2:=(formats_Plane N a1 s1.2)
   replace hT:=sIf hT;obtain⟨o1,hT⟩:=hT
   refine zA hX ?_
   let x1:=(bif s1.1 then(decide (((a2.getD (s1.2).toNat []).length:Int)=((c2.getD default).1*(c2.getD default).2)))else false)
   replace hT:=sIf hT;obtain⟨o1,hT⟩:=hT
   refine rRegC md0 hX rfl rfl rfl zO ?_
   refine rInNormal (rThen ?_)
   replace hT:=sIf hT;obtain⟨o1,hT⟩:=hT
   refine zReg md0 hX rfl rfl rfl ?_
   exact hnexts1 _ (sJ hT).symm _ (To.mk' [] 0 hε rfl zL zL)
  .replace hT:=sF hc hT
   refine rExit (rThenExit (rThenExit ?_))
   exact zTo [] 0 hε (hxs10 _ (houts1 _ (sJ hT).symm))
 .cases h
def stores_New_own(N:Nat)(a1:Int):Option Zt2:=
 let c1:=(formats_Size N a1)
 if c1.isSome=true then
  bif(!(c1.getD default).2.2)then
   some (0,0,0,0,1,0,[],0,[],0,[])
  else
   let c2:=(formats_Plane N a1 0)
   if c2.isSome=true then
    if inK .i64 ((c2.getD default).1*(c2.getD default).2)/\(0:Int)<=((c2.getD default).1*(c2.getD default).2)/\((c2.getD default).1*(c2.getD default).2)*8<=140737488355328 then
     let c3:=(formats_Plane N a1 1)
     if c3.isSome=true then
      if inK .i64 ((c3.getD default).1*(c3.getD default).2)/\(0:Int)<=((c3.getD default).1*(c3.getD default).2)/\((c3.getD default).1*(c3.getD default).2)*8<=140737488355328 then
       let c4:=(formats_Plane N a1 2)
       if c4.isSome=true then
        if inK .i64 ((c4.getD default).1*(c4.getD default).2)/\(0:Int)<=((c4.getD default).1*(c4.getD default).2)/\((c4.getD default).1*(c4.getD default).2)*8<=140737488355328 then
         some (a1,((c2.getD default).1*(c2.getD default).2).toNat,((c3.getD default).1*(c3.getD default).2).toNat,((c4.getD default).1*(c4.getD default).2).toNat,0,((c2.getD default).1*(c2.getD default).2).toNat,(List.replicate ((c2.getD default).1*(c2.getD default).2).toNat 0),((c3.getD default).1*(c3.getD default).2).toNat,(List.replicate ((c3.getD default).1*(c3.getD default).2).toNat 0),((c4.getD default).1*(c4.getD default).2).toNat,(List.replicate ((c4.getD default).1*(c4.getD default).2).toNat 0))
        else none
       else none
      else none
     else none
    else none
   else none
 else none
def sp_stores_New_own(N:Nat):X.Spec:=fun args lk=>match args with
 | [.v (.c (.int .i64 a1))]=>some ⟨(stores_New_own N a1).isSome=true,.tup [.agg [.cs [.int .i64 ((stores_New_own N a1).getD default).1,.sl 0 0 ((stores_New_own N a1).getD default).2.1 1,.sl 1 0 ((stores_New_own N a1).getD default).2.2.1 1,.sl 2 0 ((stores_New_own N a1).getD default).2.2.2.1 1]],.c (.int .i64 ((stores_New_own N a1).getD default).2.2.2.2.1)],[.mem true 3 (some 0) (.flat [.ints ((stores_New_own N a1).getD default).2.2.2.2.2.1 .i64 ((stores_New_own N a1).getD default).2.2.2.2.2.2.1]),.mem true 3 (some 0) (.flat [.ints ((stores_New_own N a1).getD default).2.2.2.2.2.2.2.1 .i64 ((stores_New_own N a1).getD default).2.2.2.2.2.2.2.2.1]),.mem true 3 (some 0) (.flat [.ints ((stores_New_own N a1).getD default).2.2.2.2.2.2.2.2.2.1 .i64 ((stores_New_own N a1).getD default).2.2.2.2.2.2.2.2.2.2])],[]⟩
 | _=>none
theorem ok_stores_New_own(N:Nat):FnOK Tryz.prog gt0 40 (sp_stores_New_own N):=by
 refine fnOK_handed Tryz.func40 rfl (by kernel_rfl) ttC_ok (ktCons (ok_formats_Plane N) (ktCons (ok_formats_Size N) (ktNil))) ?_
 intro args lk r h hp
 unfold sp_stores_New_own at h
 split at h
 .rename_i a1
  cases h
  obtain⟨x,hT⟩:=sX hp;clear hp
  simp only[hT,Option.getD_some]
  refine hand0 rfl rfl fun w0 M ε0 hX=>rCount fun hε => ?_
  unfold stores_New_own at hT
  refine zA hX ?_
  refine rSeq ?_
  let c1:=(formats_Size N a1)
  replace hT:=sIf hT;obtain⟨o1,hT⟩:=hT
  refine zA hX ?_
  refine zA hX ?_
  refine zCond rfl rfl (fun hc => ?_) (fun hc => ?_)
  .replace hT:=sT hc hT
   refine zA hX ?_
   refine rRet (rThenRet (rNilQ 3 1 (.flat [.ints 0 .i64 []]) [(2,.v (.c (.ptr 0 0 0 0 0 0))),(3,.v (.c (.int .i64 1)))] [(0,.mem true 29 none (.flat [.cs [.int .i64 0,.sl 1 0 0 1,.val (.slice none 0 0),.val (.slice none 0 0)]]))] (nil_ints _) zF zF ?_))
   refine rNilQ 3 1 (.flat [.ints 0 .i64 []]) [(2,.v (.c (.ptr 0 0 0 0 0 0))),(3,.v (.c (.int .i64 1)))] [(0,.mem true 29 none (.flat [.cs [.int .i64 0,.sl 1 0 0 1,.sl 2 0 0 1,.val (.slice none 0 0)]])),(1,.mem true 3 (some 1) (.flat [.ints 0 .i64 []]))] (nil_ints _) zF zF ?_
   refine rNilQ 3 1 (.flat [.ints 0 .i64 []]) [(2,.v (.c (.ptr 0 0 0 0 0 0))),(3,.v (.c (.int .i64 1)))] [(0,.mem true 29 none (.flat [.cs [.int .i64 0,.sl 1 0 0 1,.sl 2 0 0 1,.sl 3 0 0 1]])),(1,.mem true 3 (some 1) (.flat [.ints 0 .i64 []])),(2,.mem true 3 (some 1) (.flat [.ints 0 .i64 []]))] (nil_ints _) zF zF ?_
   refine rTail0Q 1 rfl rfl ?_
   refine rTail0Q 2 rfl rfl ?_
   refine rTail0Q 3 rfl rfl ?_
   have hy:=sJ hT;subst hy
   exact rEndA [1,2,3] [.mem true 3 (some 0) (.flat [.ints 0 .i64 []]),.mem true 3 (some 0) (.flat [.ints 0 .i64 []]),.mem true 3 (some 0) (.flat [.ints 0 .i64 []])] [] (.tup [.agg [.cs [.int .i64 0,.sl 1 0 0 1,.sl 2 0 0 1,.sl 3 0 0 1]],.c (.int .i64 1)]) hX rfl zZ zL rfl rfl rfl zT rfl rfl zT rfl rfl
  .replace hT:=sF hc hT
   refine rSkip (rThen (zA hX ?_))
   refine rSeq (zA hX ?_)
   refine rBlock (rRounds 24 ?_)
   refine zA hX ?_
   refine rSeq (rCondT rfl rfl zP rfl ?_)
   refine rSkip (rThen (rSeq (rBlock (zA hX ?_))))
   let c2:=(formats_Plane N a1 0)
   replace hT:=sIf hT;obtain⟨o1,hT⟩:=hT
   refine zA hX ?_
   replace hT:=sIf hT;obtain⟨⟨o1,o2,o3⟩,hT⟩:=hT
   refine zReg md0 hX rfl rfl rfl ?_
   refine rInNormal (rThen (zReg md0 hX rfl rfl rfl ?_))
   refine rRound ?_
   refine zA hX ?_
   refine rSeq (rCondT rfl rfl zP rfl ?_)
   refine rSkip (rThen (rSeq (rBlock (zA hX ?_))))
   let c3:=(formats_Plane N a1 1)
   replace hT:=sIf hT;obtain⟨o1,hT⟩:=hT
   refine zA hX ?_
   replace hT:=sIf hT;obtain⟨⟨o1,o2,o3⟩,hT⟩:=hT
   refine zReg md0 hX rfl rfl rfl ?_
   refine rInNormal (rThen (zReg md0 hX rfl rfl rfl ?_))
   refine rRound ?_
   refine zA hX ?_
   refine rSeq (rCondT rfl rfl zP rfl ?_)
   refine rSkip (rThen (rSeq (rBlock (zA hX ?_))))
   let c4:=(formats_Plane N a1 2)
   replace hT:=sIf hT;obtain⟨o1,hT⟩:=hT
   refine zA hX ?_
   replace hT:=sIf hT;obtain⟨⟨o1,o2,o3⟩,hT⟩:=hT
   refine zReg md0 hX rfl rfl rfl ?_
   refine rInNormal (rThen (zReg md0 hX rfl rfl rfl ?_))
   refine rRound ?_
   refine zA hX ?_
   refine rSeq (rCondF rfl rfl zP rfl ?_)
   refine rExit (rThenExit (rThenExit (rInHit (rThen (zA hX ?_)))))
   refine rRet (rTail0Q 2 rfl rfl ?_)
   refine rTail0Q 3 rfl rfl ?_
   refine rTail0Q 4 rfl rfl ?_
   have hy:=sJ hT;subst hy
   exact rEndA [2,3,4] [.mem true 3 (some 0) (.flat [.ints ((c2.getD default).1*(c2.getD default).2).toNat .i64 (List.replicate ((c2.getD default).1*(c2.getD default).2).toNat 0)]),.mem true 3 (some 0) (.flat [.ints ((c3.getD default).1*(c3.getD default).2).toNat .i64 (List.replicate ((c3.getD default).1*(c3.getD default).2).toNat 0)]),.mem true 3 (some 0) (.flat [.ints ((c4.getD default).1*(c4.getD default).2).toNat .i64 (List.replicate ((c4.getD default).1*(c4.getD default).2).toNat 0)])] [] (.tup [.agg [.cs [.int .i64 a1,.sl 2 0 ((c2.getD default).1*(c2.getD default).2).toNat 1,.sl 3 0 ((c3.getD default).1*(c3.getD default).2).toNat 1,.sl 4 0 ((c4.getD default).1*(c4.getD default).2).toNat 1]],.c (.int .i64 0)]) hX rfl zZ zL rfl rfl rfl zT rfl rfl zT rfl rfl
 .cases h
def stores_Diff_b1(N:Nat) (a2:(List (List Int))) (a4:(List (List Int))) (c3:(Option Zt2)) (s3:Zt4):Option (Zt4⊕Zt4):=
 bif(decide (s3.1<((a2.getD 2 []).length:Int)))then
  if(0:Int)<=s3.1/\s3.1<((a2.getD 2 []).length:Int)then
   let x2:=(s3.2.2.set (s3.1).toNat (((a2.getD 2 []).getD (s3.1).toNat 0)-((a4.getD 2 []).getD (s3.1).toNat 0)))
   if inK .i64 ((a2.getD 2 []).getD (s3.1).toNat 0)/\(0:Int)<=s3.1/\s3.1<((a4.getD 2 []).length:Int)/\inK .i64 ((a4.getD 2 []).getD (s3.1).toNat 0)/\inK .i64 (((a2.getD 2 []).getD (s3.1).toNat 0)-((a4.getD 2 []).getD (s3.1).toNat 0))/\s3.1<((c3.getD default).2.2.2.1:Int)/\(s3.1).toNat<(c3.getD default).2.2.2.2.2.2.2.2.2.1 then
    if inK .i64 (s3.1+1)then
     some (.inl ((s3.1+1),(decide (s3.1<((a2.getD 2 []).length:Int))),x2))
    else none
   else none
  else none
 else
  some (.inr (s3.1,(decide (s3.1<((a2.getD 2 []).length:Int))),s3.2.2))
def stores_Diff_b2(N:Nat) (a2:(List (List Int))) (a4:(List (List Int))) (c3:(Option Zt2)) (s2:Zt4):Option (Zt4⊕Zt4):=
 bif(decide (s2.1<((a2.getD 1 []).length:Int)))then
  if(0:Int)<=s2.1/\s2.1<((a2.getD 1 []).length:Int)then
   let x3:=(s2.2.2.set (s2.1).toNat (((a2.getD 1 []).getD (s2.1).toNat 0)-((a4.getD 1 []).getD (s2.1).toNat 0)))
   if inK .i64 ((a2.getD 1 []).getD (s2.1).toNat 0)/\(0:Int)<=s2.1/\s2.1<((a4.getD 1 []).length:Int)/\inK .i64 ((a4.getD 1 []).getD (s2.1).toNat 0)/\inK .i64 (((a2.getD 1 []).getD (s2.1).toNat 0)-((a4.getD 1 []).getD (s2.1).toNat 0))/\s2.1<((c3.getD default).2.2.1:Int)/\(s2.1).toNat<(c3.getD default).2.2.2.2.2.2.2.1 then
    if inK .i64 (s2.1+1)then
     some (.inl ((s2.1+1),(decide (s2.1<((a2.getD 1 []).length:Int))),x3))
    else none
   else none
  else none
 else
  some (.inr (s2.1,(decide (s2.1<((a2.getD 1 []).length:Int))),s2.2.2))
def stores_Diff_b3(N:Nat) (a2:(List (List Int))) (a4:(List (List Int))) (c3:(Option Zt2)) (s1:(Int×(List Int))):Option ((Int×(List Int))⊕Zt4):=
 bif(decide (s1.1<((a2.getD 0 []).length:Int)))then
  if(0:Int)<=s1.1/\s1.1<((a2.getD 0 []).length:Int)then
   let x4:=(s1.2.set (s1.1).toNat (((a2.getD 0 []).getD (s1.1).toNat 0)-((a4.getD 0 []).getD (s1.1).toNat 0)))
   if inK .i64 ((a2.getD 0 []).getD (s1.1).toNat 0)/\(0:Int)<=s1.1/\s1.1<((a4.getD 0 []).length:Int)/\inK .i64 ((a4.getD 0 []).getD (s1.1).toNat 0)/\inK .i64 (((a2.getD 0 []).getD (s1.1).toNat 0)-((a4.getD 0 []).getD (s1.1).toNat 0))/\s1.1<((c3.getD default).2.1:Int)/\(s1.1).toNat<(c3.getD default).2.2.2.2.2.1 then
    if inK .i64 (s1.1+1)then
     some (.inl ((s1.1+1),x4))
    else none
   else none
  else none
 else
  some (.inr (s1.1,(decide (s1.1<((a2.getD 0 []).length:Int))),s1.2))
def stores_Diff(N:Nat)(a1:Int) (a2:(List (List Int))) (a3:Int) (a4:(List (List Int))):Option Zt12:=
 let c1:=(planes_Right N a1 a2)
 let c2:=(planes_Right N a3 a4)
 let x1:=(bif(bif(!(c1.getD default))then true else(!(c2.getD default)))then true else(decide (a1≠a3)))
 if c1.isSome=true/\((!(!(c1.getD default)))=true->c2.isSome=true)then
  bif x1 then
   some (0,[[],[],[]],1)
  else
   let c3:=(stores_New_own N a1)
   if c3.isSome=true then
    (iter (stores_Diff_b3 N a2 a4 c3) N (0,(c3.getD default).2.2.2.2.2.2.1)).bind fun v1=>
     (iter (stores_Diff_b2 N a2 a4 c3) N (0,v1.2.1,(c3.getD default).2.2.2.2.2.2.2.2.1)).bind fun v2=>
      (iter (stores_Diff_b1 N a2 a4 c3) N (0,v2.2.1,(c3.getD default).2.2.2.2.2.2.2.2.2.2)).bind fun v3=>
       if(c3.getD default).2.1=v1.2.2.length/\(c3.getD default).2.2.1=v2.2.2.length/\(c3.getD default).2.2.2.1=v3.2.2.length then
        some ((c3.getD default).1,[v1.2.2,v2.2.2,v3.2.2],0)
       else none
   else none
 else none
def sp_stores_Diff(N:Nat):X.Spec:=fun args lk=>match args with
 | [.v (.agg [.cs [.int .i64 a1],.fzs 3 (.int .u8) a2]),.v (.agg [.cs [.int .i64 a3],.fzs 3 (.int .u8) a4])]=>some ⟨(stores_Diff N a1 a2 a3 a4).isSome=true,.tup [.agg [.cs [.int .i64 ((stores_Diff N a1 a2 a3 a4).getD default).1],.fzs 3 (.int .i64) ((stores_Diff N a1 a2 a3 a4).getD default).2.1],.c (.int .i64 ((stores_Diff N a1 a2 a3 a4).getD default).2.2)],[],[]⟩
 | _=>none
theorem ok_stores_Diff(N:Nat):FnOK Tryz.prog gt0 18 (sp_stores_Diff N):=by
 refine fnOK_handed Tryz.func18 rfl (by kernel_rfl) ttC_ok (ktCons (ok_stores_New_own N) (ktCons (ok_planes_Right N) (ktNil))) ?_
 intro args lk r h hp
 unfold sp_stores_Diff at h
 split at h
 .rename_i a1 a2 a3 a4
  change (List (List Int))at a2
  change (List (List Int))at a4
  cases h
  obtain⟨x,hT⟩:=sX hp;clear hp
  simp only[hT,Option.getD_some]
  refine hand0 rfl rfl fun w0 M ε0 hX=>rCount fun hε => ?_
  unfold stores_Diff at hT
  refine zA hX ?_
  refine rSeq ?_
  let c1:=(planes_Right N a1 a2)
  let c2:=(planes_Right N a3 a4)
  let x1:=(bif(bif(!(c1.getD default))then true else(!(c2.getD default)))then true else(decide (a1≠a3)))
  replace hT:=sIf hT;obtain⟨⟨o1,o2⟩,hT⟩:=hT
  refine rSeq (rRegC md0 hX rfl rfl rfl zO ?_)
  refine rThen ?_
  refine zCond rfl rfl (fun hc => ?_) (fun hc => ?_)
  .replace hT:=sT hc hT
   refine zA hX ?_
   refine rRet (rThenRet (rPackNE 2 (.int .i64) rfl rfl ?_))
   have hy:=sJ hT;subst hy
   exact zEnd0 hX rfl
  .replace hT:=sF hc hT
   refine rSkip (rThen ?_)
   let c3:=(stores_New_own N a1)
   replace hT:=sIf hT;obtain⟨o1,hT⟩:=hT
   refine zA hX ?_
   refine rSeq (zA hX ?_)
   refine rBlock (rRounds 24 ?_)
   refine zA hX ?_
   refine rSeq (rCondT rfl rfl zP rfl ?_)
   refine rSkip (rThen (rSeq (rBlock (zA hX ?_))))
   refine zA hX ?_
   refine rBlock ?_
   replace hT:=sBind hT;obtain⟨w1,hl,hT⟩:=hT
   refine rJoinA (fun v1=>v1=w1) (fun v1=>⟨[(3,.v (.c (.ptr 1 0 0 0 0 0))),(4,.v (.c (.ptr 2 0 0 0 0 0))),(5,.v (.c (.int .i64 0))),(6,.v (.c (.ptr 6 0 0 0 0 0))),(8,.v (.c (.int .i64 0))),(9,.v (.c (.fz (.int .u8) (a2.getD 0 [])))),(35,.v (.agg [.fzs 3 (.int .u8) a2])),(36,.v (.c (.int .i64 0))),(37,.v (.c (.bool true))),(38,.v (.c (.int .i64 0))),(39,.v (.c (.fz (.int .u8) (a2.getD 0 [])))),(40,.v (.c (.fz (.int .u8) (a2.getD 0 [])))),(41,.v (.c (.int .i64 ((a2.getD 0 []).length:Int)))),(42,.v (.c (.int .i64 v1.1))),(43,.v (.c (.bool v1.2.1)))],[(1,.mem true 25 none (.flat [.cs [.int .i64 a3],.fzs 3 (.int .u8) a4])),(2,.mem true 29 none (.flat [.cs [.int .i64 0,.val (.slice none 0 0),.val (.slice none 0 0),.val (.slice none 0 0)]])),(3,.mem true 3 (some 0) (.flat [.ints (c3.getD default).2.2.2.2.2.1 .i64 v1.2.2])),(4,.mem true 3 (some 0) (.flat [.ints (c3.getD default).2.2.2.2.2.2.2.1 .i64 (c3.getD default).2.2.2.2.2.2.2.2.1])),(5,.mem true 3 (some 0) (.flat [.ints (c3.getD default).2.2.2.2.2.2.2.2.2.1 .i64 (c3.getD default).2.2.2.2.2.2.2.2.2.2])),(6,.mem true 29 none (.flat [.cs [.int .i64 (c3.getD default).1,.sl 3 0 (c3.getD default).2.1 1,.sl 4 0 (c3.getD default).2.2.1 1,.sl 5 0 (c3.getD default).2.2.2.1 1]]))],7⟩) (.exit 2) (fun v1 hv => ?_) (fun hxs10 => ?_)
   .subst hv;clear hl
    refine rInHit (rInNormal (rThen (zReg md0 hX rfl rfl rfl ?_)))
    refine rRound ?_
    refine zA hX ?_
    refine rSeq (rCondT rfl rfl zP rfl ?_)
    refine rSkip (rThen (rSeq (rBlock (zA hX ?_))))
    refine zA hX ?_
    refine rBlock ?_
    replace hT:=sBind hT;obtain⟨w2,hl,hT⟩:=hT
    refine rJoinA (fun v2=>v2=w2) (fun v2=>⟨[(3,.v (.c (.ptr 1 0 0 0 0 0))),(4,.v (.c (.ptr 2 0 0 0 0 0))),(5,.v (.c (.int .i64 0))),(6,.v (.c (.ptr 6 0 0 0 0 0))),(8,.v (.c (.int .i64 1))),(9,.v (.c (.fz (.int .u8) (a2.getD 1 [])))),(35,.v (.agg [.fzs 3 (.int .u8) a2])),(36,.v (.c (.int .i64 1))),(37,.v (.c (.bool true))),(38,.v (.c (.int .i64 1))),(39,.v (.c (.fz (.int .u8) (a2.getD 1 [])))),(40,.v (.c (.fz (.int .u8) (a2.getD 1 [])))),(41,.v (.c (.int .i64 ((a2.getD 1 []).length:Int)))),(42,.v (.c (.int .i64 v2.1))),(43,.v (.c (.bool v2.2.1))),(65,.v (.c (.int .i64 1)))],[(1,.mem true 25 none (.flat [.cs [.int .i64 a3],.fzs 3 (.int .u8) a4])),(2,.mem true 29 none (.flat [.cs [.int .i64 0,.val (.slice none 0 0),.val (.slice none 0 0),.val (.slice none 0 0)]])),(3,.mem true 3 (some 0) (.flat [.ints (c3.getD default).2.2.2.2.2.1 .i64 v1.2.2])),(4,.mem true 3 (some 0) (.flat [.ints (c3.getD default).2.2.2.2.2.2.2.1 .i64 v2.2.2])),(5,.mem true 3 (some 0) (.flat [.ints (c3.getD default).2.2.2.2.2.2.2.2.2.1 .i64 (c3.getD default).2.2.2.2.2.2.2.2.2.2])),(6,.mem true 29 none (.flat [.cs [.int .i64 (c3.getD default).1,.sl 3 0 (c3.getD default).2.1 1,.sl 4 0 (c3.getD default).2.2.1 1,.sl 5 0 (c3.getD default).2.2.2.1 1]]))],7⟩) (.exit 2) (fun v2 hv => ?_) (fun hxs20 => ?_)
    .subst hv;clear hl
     refine rInHit (rInNormal (rThen (zReg md0 hX rfl rfl rfl ?_)))
     refine rRound ?_
     refine zA hX ?_
     refine rSeq (rCondT rfl rfl zP rfl ?_)
     refine rSkip (rThen (rSeq (rBlock (zA hX ?_))))
     refine zA hX ?_
     refine rBlock ?_
     replace hT:=sBind hT;obtain⟨w3,hl,hT⟩:=hT
     refine rJoinA (fun v3=>v3=w3) (fun v3=>⟨[(3,.v (.c (.ptr 1 0 0 0 0 0))),(4,.v (.c (.ptr 2 0 0 0 0 0))),(5,.v (.c (.int .i64 0))),(6,.v (.c (.ptr 6 0 0 0 0 0))),(8,.v (.c (.int .i64 2))),(9,.v (.c (.fz (.int .u8) (a2.getD 2 [])))),(35,.v (.agg [.fzs 3 (.int .u8) a2])),(36,.v (.c (.int .i64 2))),(37,.v (.c (.bool true))),(38,.v (.c (.int .i64 2))),(39,.v (.c (.fz (.int .u8) (a2.getD 2 [])))),(40,.v (.c (.fz (.int .u8) (a2.getD 2 [])))),(41,.v (.c (.int .i64 ((a2.getD 2 []).length:Int)))),(42,.v (.c (.int .i64 v3.1))),(43,.v (.c (.bool v3.2.1))),(65,.v (.c (.int .i64 2)))],[(1,.mem true 25 none (.flat [.cs [.int .i64 a3],.fzs 3 (.int .u8) a4])),(2,.mem true 29 none (.flat [.cs [.int .i64 0,.val (.slice none 0 0),.val (.slice none 0 0),.val (.slice none 0 0)]])),(3,.mem true 3 (some 0) (.flat [.ints (c3.getD default).2.2.2.2.2.1 .i64 v1.2.2])),(4,.mem true 3 (some 0) (.flat [.ints (c3.getD default).2.2.2.2.2.2.2.1 .i64 v2.2.2])),(5,.mem true 3 (some 0) (.flat [.ints (c3.getD default).2.2.2.2.2.2.2.2.2.1 .i64 v3.2.2])),(6,.mem true 29 none (.flat [.cs [.int .i64 (c3.getD default).1,.sl 3 0 (c3.getD default).2.1 1,.sl 4 0 (c3.getD default).2.2.1 1,.sl 5 0 (c3.getD default).2.2.2.1 1]]))],7⟩) (.exit 2) (fun v3 hv => ?_) (fun hxs30 => ?_)
     .subst hv;clear hl
      refine rInHit (rInNormal (rThen (zReg md0 hX rfl rfl rfl ?_)))
      refine rRound ?_
      refine zA hX ?_
      refine rSeq (rCondF rfl rfl zP rfl ?_)
      refine rExit (rThenExit (rThenExit (rInHit (rThen (zA hX ?_)))))
      refine rRet ?_
      replace hT:=sIf hT;obtain⟨⟨p1,p2,p3⟩,hT⟩:=hT
      refine rFreezeQ 3 (.int .i64) v1.2.2 [(4,.v (.c (.ptr 2 0 0 0 0 0))),(5,.v (.c (.int .i64 0)))] [(2,.mem true 29 none (.flat [.cs [.int .i64 (c3.getD default).1,.fz (.int .i64) v1.2.2,.sl 4 0 (c3.getD default).2.2.1 1,.sl 5 0 (c3.getD default).2.2.2.1 1]])),(4,.mem true 3 (some 0) (.flat [.ints (c3.getD default).2.2.2.2.2.2.2.1 .i64 v2.2.2])),(5,.mem true 3 (some 0) (.flat [.ints (c3.getD default).2.2.2.2.2.2.2.2.2.1 .i64 v3.2.2]))] rfl rfl zF zF ?_
      refine rFreezeQ 4 (.int .i64) v2.2.2 [(4,.v (.c (.ptr 2 0 0 0 0 0))),(5,.v (.c (.int .i64 0)))] [(2,.mem true 29 none (.flat [.cs [.int .i64 (c3.getD default).1,.fz (.int .i64) v1.2.2,.fz (.int .i64) v2.2.2,.sl 5 0 (c3.getD default).2.2.2.1 1]])),(5,.mem true 3 (some 0) (.flat [.ints (c3.getD default).2.2.2.2.2.2.2.2.2.1 .i64 v3.2.2]))] rfl rfl zF zF ?_
      refine rFreezeQ 5 (.int .i64) v3.2.2 [(4,.v (.c (.ptr 2 0 0 0 0 0))),(5,.v (.c (.int .i64 0)))] [(2,.mem true 29 none (.flat [.cs [.int .i64 (c3.getD default).1,.fz (.int .i64) v1.2.2,.fz (.int .i64) v2.2.2,.fz (.int .i64) v3.2.2]]))] rfl rfl zF zF ?_
      refine rPackE 2 rfl rfl ?_
      have hy:=sJ hT;subst hy
      exact zEnd0 hX rfl
     refine rLoopM (stores_Diff_b1 N a2 a4 c3) (fun s3=>⟨[(3,.v (.c (.ptr 1 0 0 0 0 0))),(4,.v (.c (.ptr 2 0 0 0 0 0))),(5,.v (.c (.int .i64 0))),(6,.v (.c (.ptr 6 0 0 0 0 0))),(8,.v (.c (.int .i64 2))),(9,.v (.c (.fz (.int .u8) (a2.getD 2 [])))),(35,.v (.agg [.fzs 3 (.int .u8) a2])),(36,.v (.c (.int .i64 2))),(37,.v (.c (.bool true))),(38,.v (.c (.int .i64 2))),(39,.v (.c (.fz (.int .u8) (a2.getD 2 [])))),(40,.v (.c (.fz (.int .u8) (a2.getD 2 [])))),(41,.v (.c (.int .i64 ((a2.getD 2 []).length:Int)))),(42,.v (.c (.int .i64 s3.1))),(43,.v (.c (.bool s3.2.1))),(65,.v (.c (.int .i64 2)))],[(1,.mem true 25 none (.flat [.cs [.int .i64 a3],.fzs 3 (.int .u8) a4])),(2,.mem true 29 none (.flat [.cs [.int .i64 0,.val (.slice none 0 0),.val (.slice none 0 0),.val (.slice none 0 0)]])),(3,.mem true 3 (some 0) (.flat [.ints (c3.getD default).2.2.2.2.2.1 .i64 v1.2.2])),(4,.mem true 3 (some 0) (.flat [.ints (c3.getD default).2.2.2.2.2.2.2.1 .i64 v2.2.2])),(5,.mem true 3 (some 0) (.flat [.ints (c3.getD default).2.2.2.2.2.2.2.2.2.1 .i64 s3.2.2])),(6,.mem true 29 none (.flat [.cs [.int .i64 (c3.getD default).1,.sl 3 0 (c3.getD default).2.1 1,.sl 4 0 (c3.getD default).2.2.1 1,.sl 5 0 (c3.getD default).2.2.2.1 1]]))],7⟩) hl (To.mk' [] 0 hε rfl zL zL) (fun s3 zs3 NNs3 hz hnexts3 houts3 => ?_)
     clear hl hT
     have hT:=hz;clear hz
     refine zA hX ?_
     refine rSeq ?_
     refine zCond rfl rfl (fun hc => ?_) (fun hc => ?_)
     .replace hT:=sT hc hT
      refine rSkip (rThen (rSeq (rBlock ?_)))
      replace hT:=sIf hT;obtain⟨⟨o1,o2⟩,hT⟩:=hT
      refine zA hX ?_
      let x2:=(s3.2.2.set (s3.1).toNat (((a2.getD 2 []).getD (s3.1).toNat 0)-((a4.getD 2 []).getD (s3.1).toNat 0)))
      replace hT:=sIf hT;obtain⟨⟨o1,o2,o3,o4,o5,o6,o7⟩,hT⟩:=hT
      refine zDraw md0 1 [17] hX mixed rfl rfl rfl rfl rfl ?_
      refine rInNormal (rThen ?_)
      replace hT:=sIf hT;obtain⟨o1,hT⟩:=hT
      refine zReg md0 hX rfl rfl rfl ?_
      exact hnexts3 _ (sJ hT).symm _ (To.mk' [] 0 hε rfl zL zL)
     .replace hT:=sF hc hT
      refine rExit (rThenExit (rThenExit ?_))
      exact zTo [] 0 hε (hxs30 _ (houts3 _ (sJ hT).symm))
    refine rLoopM (stores_Diff_b2 N a2 a4 c3) (fun s2=>⟨[(3,.v (.c (.ptr 1 0 0 0 0 0))),(4,.v (.c (.ptr 2 0 0 0 0 0))),(5,.v (.c (.int .i64 0))),(6,.v (.c (.ptr 6 0 0 0 0 0))),(8,.v (.c (.int .i64 1))),(9,.v (.c (.fz (.int .u8) (a2.getD 1 [])))),(35,.v (.agg [.fzs 3 (.int .u8) a2])),(36,.v (.c (.int .i64 1))),(37,.v (.c (.bool true))),(38,.v (.c (.int .i64 1))),(39,.v (.c (.fz (.int .u8) (a2.getD 1 [])))),(40,.v (.c (.fz (.int .u8) (a2.getD 1 [])))),(41,.v (.c (.int .i64 ((a2.getD 1 []).length:Int)))),(42,.v (.c (.int .i64 s2.1))),(43,.v (.c (.bool s2.2.1))),(65,.v (.c (.int .i64 1)))],[(1,.mem true 25 none (.flat [.cs [.int .i64 a3],.fzs 3 (.int .u8) a4])),(2,.mem true 29 none (.flat [.cs [.int .i64 0,.val (.slice none 0 0),.val (.slice none 0 0),.val (.slice none 0 0)]])),(3,.mem true 3 (some 0) (.flat [.ints (c3.getD default).2.2.2.2.2.1 .i64 v1.2.2])),(4,.mem true 3 (some 0) (.flat [.ints (c3.getD default).2.2.2.2.2.2.2.1 .i64 s2.2.2])),(5,.mem true 3 (some 0) (.flat [.ints (c3.getD default).2.2.2.2.2.2.2.2.2.1 .i64 (c3.getD default).2.2.2.2.2.2.2.2.2.2])),(6,.mem true 29 none (.flat [.cs [.int .i64 (c3.getD default).1,.sl 3 0 (c3.getD default).2.1 1,.sl 4 0 (c3.getD default).2.2.1 1,.sl 5 0 (c3.getD default).2.2.2.1 1]]))],7⟩) hl (To.mk' [] 0 hε rfl zL zL) (fun s2 zs2 NNs2 hz hnexts2 houts2 => ?_)
    clear hl hT
    have hT:=hz;clear hz
    refine zA hX ?_
    refine rSeq ?_
    refine zCond rfl rfl (fun hc => ?_) (fun hc => ?_)
    .replace hT:=sT hc hT
     refine rSkip (rThen (rSeq (rBlock ?_)))
     replace hT:=sIf hT;obtain⟨⟨o1,o2⟩,hT⟩:=hT
     refine zA hX ?_
     let x3:=(s2.2.2.set (s2.1).toNat (((a2.getD 1 []).getD (s2.1).toNat 0)-((a4.getD 1 []).getD (s2.1).toNat 0)))
     replace hT:=sIf hT;obtain⟨⟨o1,o2,o3,o4,o5,o6,o7⟩,hT⟩:=hT
     refine zDraw md0 1 [17] hX mixed rfl rfl rfl rfl rfl ?_
     refine rInNormal (rThen ?_)
     replace hT:=sIf hT;obtain⟨o1,hT⟩:=hT
     refine zReg md0 hX rfl rfl rfl ?_
     exact hnexts2 _ (sJ hT).symm _ (To.mk' [] 0 hε rfl zL zL)
    .replace hT:=sF hc hT
     refine rExit (rThenExit (rThenExit ?_))
     exact zTo [] 0 hε (hxs20 _ (houts2 _ (sJ hT).symm))
   refine rLoopM (stores_Diff_b3 N a2 a4 c3) (fun s1=>⟨[(3,.v (.c (.ptr 1 0 0 0 0 0))),(4,.v (.c (.ptr 2 0 0 0 0 0))),(5,.v (.c (.int .i64 0))),(6,.v (.c (.ptr 6 0 0 0 0 0))),(8,.v (.c (.int .i64 0))),(9,.v (.c (.fz (.int .u8) (a2.getD 0 [])))),(35,.v (.agg [.fzs 3 (.int .u8) a2])),(36,.v (.c (.int .i64 0))),(37,.v (.c (.bool true))),(38,.v (.c (.int .i64 0))),(39,.v (.c (.fz (.int .u8) (a2.getD 0 [])))),(40,.v (.c (.fz (.int .u8) (a2.getD 0 [])))),(41,.v (.c (.int .i64 ((a2.getD 0 []).length:Int)))),(42,.v (.c (.int .i64 s1.1)))],[(1,.mem true 25 none (.flat [.cs [.int .i64 a3],.fzs 3 (.int .u8) a4])),(2,.mem true 29 none (.flat [.cs [.int .i64 0,.val (.slice none 0 0),.val (.slice none 0 0),.val (.slice none 0 0)]])),(3,.mem true 3 (some 0) (.flat [.ints (c3.getD default).2.2.2.2.2.1 .i64 s1.2])),(4,.mem true 3 (some 0) (.flat [.ints (c3.getD default).2.2.2.2.2.2.2.1 .i64 (c3.getD default).2.2.2.2.2.2.2.2.1])),(5,.mem true 3 (some 0) (.flat [.ints (c3.getD default).2.2.2.2.2.2.2.2.2.1 .i64 (c3.getD default).2.2.2.2.2.2.2.2.2.2])),(6,.mem true 29 none (.flat [.cs [.int .i64 (c3.getD default).1,.sl 3 0 (c3.getD default).2.1 1,.sl 4 0 (c3.getD default).2.2.1 1,.sl 5 0 (c3.getD default).2.2.2.1 1]]))],7⟩) hl (To.mk' [] 0 hε rfl zL zL) (fun s1 zs1 NNs1 hz hnexts1 houts1 => ?_)
   clear hl hT
   have hT:=hz;clear hz
   refine zA hX ?_
   refine rSeq ?_
   refine zCond rfl rfl (fun hc => ?_) (fun hc => ?_)
   .replace hT:=sT hc hT
    refine rSkip (rThen (rSeq (rBlock ?_)))
    replace hT:=sIf hT;obtain⟨⟨o1,o2⟩,hT⟩:=hT
    refine zA hX ?_
    let x4:=(s1.2.set (s1.1).toNat (((a2.getD 0 []).getD (s1.1).toNat 0)-((a4.getD 0 []).getD (s1.1).toNat 0)))
    replace hT:=sIf hT;obtain⟨⟨o1,o2,o3,o4,o5,o6,o7⟩,hT⟩:=hT
    refine zDraw md0 1 [17] hX mixed rfl rfl rfl rfl rfl ?_
    refine rInNormal (rThen ?_)
    replace hT:=sIf hT;obtain⟨o1,hT⟩:=hT
    refine zReg md0 hX rfl rfl rfl ?_
    exact hnexts1 _ (sJ hT).symm _ (To.mk' [] 0 hε rfl zL zL)
   .replace hT:=sF hc hT
    refine rExit (rThenExit (rThenExit ?_))
    exact zTo [] 0 hε (hxs10 _ (houts1 _ (sJ hT).symm))
 .cases h
def cellout_bare_b1(N:Nat)(a7:Zt1)(s1:(Bool×Int)):Option ((Bool×Int)⊕Bool):=
 bif(decide (s1.2<6))then
  if(0:Int)<=s1.2/\s1.2<6/\(s1.2).toNat<6 then
   if inK .i64 (s1.2+1)then
    some (.inl ((bif s1.1 then(decide (((a7.getD (s1.2).toNat []).length:Int)=0))else false),(s1.2+1)))
   else none
  else none
 else
  some (.inr s1.1)
def cellout_bare(N:Nat)(a1:Int)(a2:Bool)(a3:Int)(a4:Int)(a5:(List Int))(a6:(List Int))(a7:Zt1):Option Bool:=
 let x2:=(bif(bif(bif(decide (a3=0))then(decide (a4=0))else false)then(decide (a5=(List.replicate 2 0)))else false)then(decide (a6=(List.replicate 6 0)))else false)
 (iter (cellout_bare_b1 N a7) N (x2,0)).bind fun v1=>
  some v1
def sp_cellout_bare(N:Nat):X.Spec:=fun args lk=>match args with
 | [.v (.agg [.cs [.int .i64 a1,.bool a2,.int .i64 a3,.int .i64 a4],.ints 2 .i64 a5,.ints 6 .i64 a6,.fzs 6 (.pair .bool (.pair (.int .i64) (.int .i64))) a7])]=>some ⟨(cellout_bare N a1 a2 a3 a4 a5 a6 a7).isSome=true,.v (.c (.bool ((cellout_bare N a1 a2 a3 a4 a5 a6 a7).getD default))),[],[]⟩
 | _=>none
theorem ok_cellout_bare(N:Nat):FnOK Tryz.prog gt0 76 (sp_cellout_bare N):=by
 refine fnOK_handed Tryz.func76 rfl (by kernel_rfl) tt_ok (ktNil) ?_
 intro args lk r h hp
 unfold sp_cellout_bare at h
 split at h
 .rename_i a1 a2 a3 a4 a5 a6 a7
  change (List Int)at a5
  change (List Int)at a6
  change Zt1 at a7
  cases h
  obtain⟨x,hT⟩:=sX hp;clear hp
  simp only[hT,Option.getD_some]
  refine hand0 rfl rfl fun w0 M ε0 hX=>rCount fun hε => ?_
  unfold cellout_bare at hT
  refine zA hX ?_
  let x2:=(bif(bif(bif(decide (a3=0))then(decide (a4=0))else false)then(decide (a5=(List.replicate 2 0)))else false)then(decide (a6=(List.replicate 6 0)))else false)
  refine zA hX ?_
  refine rSeq (zA hX ?_)
  refine rBlock ?_
  replace hT:=sBind hT;obtain⟨w1,hl,hT⟩:=hT
  refine rJoinA (fun v1=>v1=w1) (fun v1=>⟨[(2,.v (.c (.bool false))),(3,.v (.c (.bool v1)))],[],1⟩) (.exit 0) (fun v1 hv => ?_) (fun hxs10 => ?_)
  .subst hv;clear hl
   refine rInHit (rThen (zA hX ?_))
   refine rRet ?_
   have hy:=sJ hT;subst hy
   exact zEnd0 hX rfl
  refine rLoopM (cellout_bare_b1 N a7) (fun s1=>⟨[(2,.v (.c (.bool false))),(3,.v (.c (.bool s1.1))),(27,.v (.agg [.fzs 6 Zs1 a7])),(28,.v (.c (.int .i64 s1.2)))],[],1⟩) hl (To.mk' [] 0 hε rfl zL zL) (fun s1 zs1 NNs1 hz hnexts1 houts1 => ?_)
  clear hl hT
  have hT:=hz;clear hz
  refine zA hX ?_
  refine rSeq ?_
  refine zCond rfl rfl (fun hc => ?_) (fun hc => ?_)
  .replace hT:=sT hc hT
   refine rSkip (rThen (rSeq (rBlock ?_)))
   replace hT:=sIf hT;obtain⟨⟨o1,o2,o3⟩,hT⟩:=hT
   refine zA hX ?_
   refine zReg md0 hX rfl rfl rfl ?_
   refine rInNormal (rThen ?_)
   replace hT:=sIf hT;obtain⟨o1,hT⟩:=hT
   refine zReg md0 hX rfl rfl rfl ?_
   exact hnexts1 _ (sJ hT).symm _ (To.mk' [] 0 hε rfl zL zL)
  .replace hT:=sF hc hT
   refine rExit (rThenExit (rThenExit ?_))
   exact zTo [] 0 hε (hxs10 _ (houts1 _ (sJ hT).symm))
 .cases h
def cellout_intra(N:Nat)(a1:Int):Option Bool:=
 some (bif(decide (a1=3))then true else(decide (a1=4)))
def sp_cellout_intra(N:Nat):X.Spec:=fun args lk=>match args with
 | [.v (.c (.int .i64 a1))]=>some ⟨(cellout_intra N a1).isSome=true,.v (.c (.bool ((cellout_intra N a1).getD default))),[],[]⟩
 | _=>none
theorem ok_cellout_intra(N:Nat):FnOK Tryz.prog gt0 77 (sp_cellout_intra N):=by
 refine fnOK_handed Tryz.func77 rfl (by kernel_rfl) tt_ok (ktNil) ?_
 intro args lk r h hp
 unfold sp_cellout_intra at h
 split at h
 .rename_i a1
  cases h
  obtain⟨x,hT⟩:=sX hp;clear hp
  simp only[hT,Option.getD_some]
  refine hand0 rfl rfl fun w0 M ε0 hX=>rCount fun hε => ?_
  unfold cellout_intra at hT
  refine zA hX ?_
  refine zA hX ?_
  refine rRet ?_
  have hy:=sJ hT;subst hy
  exact zEnd0 hX rfl
 .cases h
def steps_Row(N:Nat)(a1:Int):Option (ByteArray×Bool):=
 bif(decide (a1=(-1)))then
  some (⟨#[48,48]⟩,true)
 else
  bif(decide (a1=(-2)))then
   some (⟨#[48,49]⟩,true)
  else
   bif(decide (a1=1))then
    some (⟨#[49,48]⟩,true)
   else
    bif(decide (a1=2))then
     some (⟨#[49,49]⟩,true)
    else
     some (⟨#[]⟩,false)
def sp_steps_Row(N:Nat):X.Spec:=fun args lk=>match args with
 | [.v (.c (.int .i64 a1))]=>some ⟨(steps_Row N a1).isSome=true,.tup [.c (.str ((steps_Row N a1).getD default).1),.c (.bool ((steps_Row N a1).getD default).2)],[],[]⟩
 | _=>none
theorem ok_steps_Row(N:Nat):FnOK Tryz.prog gt0 47 (sp_steps_Row N):=by
 refine fnOK_handed Tryz.func47 rfl (by kernel_rfl) tt_ok (ktNil) ?_
 intro args lk r h hp
 unfold sp_steps_Row at h
 split at h
 .rename_i a1
  cases h
  obtain⟨x,hT⟩:=sX hp;clear hp
  simp only[hT,Option.getD_some]
  refine hand0 rfl rfl fun w0 M ε0 hX=>rCount fun hε => ?_
  unfold steps_Row at hT
  refine zA hX ?_
  refine rSeq (zA hX ?_)
  refine rBlock (zA hX ?_)
  refine zCond rfl rfl (fun hc => ?_) (fun hc => ?_)
  .replace hT:=sT hc hT
   refine zA hX ?_
   refine rRet (rInRet (rThenRet ?_))
   have hy:=sJ hT;subst hy
   exact zEnd0 hX rfl
  .replace hT:=sF hc hT
   refine zA hX ?_
   refine zCond rfl rfl (fun hc => ?_) (fun hc => ?_)
   .replace hT:=sT hc hT
    refine zA hX ?_
    refine rRet (rInRet (rThenRet ?_))
    have hy:=sJ hT;subst hy
    exact zEnd0 hX rfl
   .replace hT:=sF hc hT
    refine zA hX ?_
    refine zCond rfl rfl (fun hc => ?_) (fun hc => ?_)
    .replace hT:=sT hc hT
     refine zA hX ?_
     refine rRet (rInRet (rThenRet ?_))
     have hy:=sJ hT;subst hy
     exact zEnd0 hX rfl
    .replace hT:=sF hc hT
     refine zA hX ?_
     refine zCond rfl rfl (fun hc => ?_) (fun hc => ?_)
     .replace hT:=sT hc hT
      refine zA hX ?_
      refine rRet (rInRet (rThenRet ?_))
      have hy:=sJ hT;subst hy
      exact zEnd0 hX rfl
     .replace hT:=sF hc hT
      refine rSkip (rInNormal (rThen (zA hX ?_)))
      refine rRet ?_
      have hy:=sJ hT;subst hy
      exact zEnd0 hX rfl
 .cases h
def cellout_stepped(N:Nat)(a1:Int):Option Bool:=
 some (bif(decide (a1=1))then true else(decide (a1=4)))
def sp_cellout_stepped(N:Nat):X.Spec:=fun args lk=>match args with
 | [.v (.c (.int .i64 a1))]=>some ⟨(cellout_stepped N a1).isSome=true,.v (.c (.bool ((cellout_stepped N a1).getD default))),[],[]⟩
 | _=>none
theorem ok_cellout_stepped(N:Nat):FnOK Tryz.prog gt0 78 (sp_cellout_stepped N):=by
 refine fnOK_handed Tryz.func78 rfl (by kernel_rfl) tt_ok (ktNil) ?_
 intro args lk r h hp
 unfold sp_cellout_stepped at h
 split at h
 .rename_i a1
  cases h
  obtain⟨x,hT⟩:=sX hp;clear hp
  simp only[hT,Option.getD_some]
  refine hand0 rfl rfl fun w0 M ε0 hX=>rCount fun hε => ?_
  unfold cellout_stepped at hT
  refine zA hX ?_
  refine zA hX ?_
  refine rRet ?_
  have hy:=sJ hT;subst hy
  exact zEnd0 hX rfl
 .cases h
def whole_Wrap(N:Nat)(a1:Int):Option Int:=
 bif(decide ((Int.tmod a1 64)<(-32)))then
  if inK .i64 ((Int.tmod a1 64)+64)then
   some ((Int.tmod a1 64)+64)
  else none
 else
  bif(decide ((32:Int)<=(Int.tmod a1 64)))then
   if inK .i64 ((Int.tmod a1 64)-64)then
    some ((Int.tmod a1 64)-64)
   else none
  else
   some (Int.tmod a1 64)
def sp_whole_Wrap(N:Nat):X.Spec:=fun args lk=>match args with
 | [.v (.c (.int .i64 a1))]=>some ⟨(whole_Wrap N a1).isSome=true,.v (.c (.int .i64 ((whole_Wrap N a1).getD default))),[],[]⟩
 | _=>none
theorem ok_whole_Wrap(N:Nat):FnOK Tryz.prog gt0 110 (sp_whole_Wrap N):=by
 refine fnOK_handed Tryz.func110 rfl (by kernel_rfl) tt_ok (ktNil) ?_
 intro args lk r h hp
 unfold sp_whole_Wrap at h
 split at h
 .rename_i a1
  cases h
  obtain⟨x,hT⟩:=sX hp;clear hp
  simp only[hT,Option.getD_some]
  refine hand0 rfl rfl fun w0 M ε0 hX=>rCount fun hε => ?_
  unfold whole_Wrap at hT
  refine rSeq (zReg mdT hX rfl rfl rfl ?_)
  refine rThen (rSeq (zReg mdT hX rfl rfl rfl ?_))
  refine rThen (rSeq (rBlock (rSeq (zReg mdT hX rfl rfl rfl ?_))))
  refine rThen ?_
  refine zCond rfl rfl (fun hc => ?_) (fun hc => ?_)
  .replace hT:=sT hc hT
   replace hT:=sIf hT;obtain⟨o1,hT⟩:=hT
   refine rSeq (zReg mdT hX rfl rfl rfl ?_)
   refine rThen (rRet (rInRet (rThenRet ?_)))
   have hy:=sJ hT;subst hy
   exact zEnd0 hX rfl
  .replace hT:=sF hc hT
   refine rSeq (zReg mdT hX rfl rfl rfl ?_)
   refine rThen ?_
   refine zCond rfl rfl (fun hc => ?_) (fun hc => ?_)
   .replace hT:=sT hc hT
    replace hT:=sIf hT;obtain⟨o1,hT⟩:=hT
    refine rSeq (zReg mdT hX rfl rfl rfl ?_)
    refine rThen (rRet (rInRet (rThenRet ?_)))
    have hy:=sJ hT;subst hy
    exact zEnd0 hX rfl
   .replace hT:=sF hc hT
    refine rSkip (rInNormal (rThen (rSeq (zReg mdT hX rfl rfl rfl ?_))))
    refine rThen (rRet ?_)
    have hy:=sJ hT;subst hy
    exact zEnd0 hX rfl
 .cases h
def cellout_vector(N:Nat)(a1:Int)(a2:Bool)(a3:Int)(a4:Int)(a5:(List Int))(a6:(List Int))(a7:Zt1):Option Bool:=
 let c1:=(cellout_intra N a3)
 if c1.isSome=true then
  bif(c1.getD default)then
   some (decide (a5=(List.replicate 2 0)))
  else
   let c2:=(whole_Wrap N (a5.getD 0 0))
   let c3:=(whole_Wrap N (a5.getD 1 0))
   let x1:=(bif(decide ((c2.getD default)=(a5.getD 0 0)))then(decide ((c3.getD default)=(a5.getD 1 0)))else false)
   if c2.isSome=true/\((decide ((c2.getD default)=(a5.getD 0 0)))=true->c3.isSome=true)then
    some x1
   else none
 else none
def sp_cellout_vector(N:Nat):X.Spec:=fun args lk=>match args with
 | [.v (.agg [.cs [.int .i64 a1,.bool a2,.int .i64 a3,.int .i64 a4],.ints 2 .i64 a5,.ints 6 .i64 a6,.fzs 6 (.pair .bool (.pair (.int .i64) (.int .i64))) a7])]=>some ⟨(cellout_vector N a1 a2 a3 a4 a5 a6 a7).isSome=true,.v (.c (.bool ((cellout_vector N a1 a2 a3 a4 a5 a6 a7).getD default))),[],[]⟩
 | _=>none
theorem ok_cellout_vector(N:Nat):FnOK Tryz.prog gt0 79 (sp_cellout_vector N):=by
 refine fnOK_handed Tryz.func79 rfl (by kernel_rfl) tt_ok (ktCons (ok_whole_Wrap N) (ktCons (ok_cellout_intra N) (ktNil))) ?_
 intro args lk r h hp
 unfold sp_cellout_vector at h
 split at h
 .rename_i a1 a2 a3 a4 a5 a6 a7
  change (List Int)at a5
  change (List Int)at a6
  change Zt1 at a7
  cases h
  obtain⟨x,hT⟩:=sX hp;clear hp
  simp only[hT,Option.getD_some]
  refine hand0 rfl rfl fun w0 M ε0 hX=>rCount fun hε => ?_
  unfold cellout_vector at hT
  refine zA hX ?_
  refine rSeq ?_
  let c1:=(cellout_intra N a3)
  replace hT:=sIf hT;obtain⟨o1,hT⟩:=hT
  refine zA hX ?_
  refine zCond rfl rfl (fun hc => ?_) (fun hc => ?_)
  .replace hT:=sT hc hT
   refine zA hX ?_
   refine rRet (rThenRet ?_)
   have hy:=sJ hT;subst hy
   exact zEnd0 hX rfl
  .replace hT:=sF hc hT
   refine rSkip (rThen ?_)
   let c2:=(whole_Wrap N (a5.getD 0 0))
   let c3:=(whole_Wrap N (a5.getD 1 0))
   let x1:=(bif(decide ((c2.getD default)=(a5.getD 0 0)))then(decide ((c3.getD default)=(a5.getD 1 0)))else false)
   replace hT:=sIf hT;obtain⟨⟨o1,o2⟩,hT⟩:=hT
   refine rSeq (rDrawM md0 0 [] hX mixed rfl rfl rfl rfl rfl zO ?_)
   refine rThen (rRet ?_)
   have hy:=sJ hT;subst hy
   exact zEnd0 hX rfl
 .cases h
def outbits_New(N:Nat):Option (List Bool):=
 some []
def sp_outbits_New(N:Nat):X.Spec:=fun args lk=>match args with
 | []=>some ⟨(outbits_New N).isSome=true,.v (.c (.ptr 0 0 0 0 0 0)),[.obj 5 ((outbits_New N).getD default)],[]⟩
 | _=>none
theorem ok_outbits_New(N:Nat):FnOK Tryz.prog gt0 81 (sp_outbits_New N):=by
 refine fnOK_handed Tryz.func81 rfl (by kernel_rfl) tt_ok (ktNil) ?_
 intro args lk r h hp
 unfold sp_outbits_New at h
 split at h
 .cases h
  obtain⟨x,hT⟩:=sX hp;clear hp
  simp only[hT,Option.getD_some]
  refine hand0 rfl rfl fun w0 M ε0 hX=>rCount fun hε => ?_
  unfold outbits_New at hT
  refine zA hX ?_
  refine zA hX ?_
  refine rRet (rShut0Q 0 5 rfl rfl ?_)
  have hy:=sJ hT;subst hy
  exact rEndA [0] [.obj 5 []] [] (.v (.c (.ptr 0 0 0 0 0 0))) hX rfl zZ zL rfl rfl rfl zT rfl rfl zT rfl rfl
 .cases h
def blocks_from(N:Nat)(a1:Bool):Option Int:=
 bif a1 then
  some 1
 else
  some 0
def sp_blocks_from(N:Nat):X.Spec:=fun args lk=>match args with
 | [.v (.c (.bool a1))]=>some ⟨(blocks_from N a1).isSome=true,.v (.c (.int .i64 ((blocks_from N a1).getD default))),[],[]⟩
 | _=>none
theorem ok_blocks_from(N:Nat):FnOK Tryz.prog gt0 122 (sp_blocks_from N):=by
 refine fnOK_handed Tryz.func122 rfl (by kernel_rfl) tt_ok (ktNil) ?_
 intro args lk r h hp
 unfold sp_blocks_from at h
 split at h
 .rename_i a1
  cases h
  obtain⟨x,hT⟩:=sX hp;clear hp
  simp only[hT,Option.getD_some]
  refine hand0 rfl rfl fun w0 M ε0 hX=>rCount fun hε => ?_
  unfold blocks_from at hT
  refine zA hX ?_
  refine rSeq (zA hX ?_)
  refine zCond rfl rfl (fun hc => ?_) (fun hc => ?_)
  .replace hT:=sT hc hT
   refine zA hX ?_
   refine rRet (rThenRet ?_)
   have hy:=sJ hT;subst hy
   exact zEnd0 hX rfl
  .replace hT:=sF hc hT
   refine rSkip (rThen (zA hX ?_))
   refine rRet ?_
   have hy:=sJ hT;subst hy
   exact zEnd0 hX rfl
 .cases h
def tcoef_Right(N:Nat)(a1:Bool)(a2:Int)(a3:Int):Option Bool:=
 let x1:=(bif(bif(bif(bif(decide ((0:Int)<=a2))then(decide (a2<=63))else false)then(decide (a3≠0))else false)then(decide (((-127):Int)<=a3))else false)then(decide (a3<=127))else false)
 some x1
def sp_tcoef_Right(N:Nat):X.Spec:=fun args lk=>match args with
 | [.v (.agg [.cs [.bool a1,.int .i64 a2,.int .i64 a3]])]=>some ⟨(tcoef_Right N a1 a2 a3).isSome=true,.v (.c (.bool ((tcoef_Right N a1 a2 a3).getD default))),[],[]⟩
 | _=>none
theorem ok_tcoef_Right(N:Nat):FnOK Tryz.prog gt0 98 (sp_tcoef_Right N):=by
 refine fnOK_handed Tryz.func98 rfl (by kernel_rfl) tt_ok (ktNil) ?_
 intro args lk r h hp
 unfold sp_tcoef_Right at h
 split at h
 .rename_i a1 a2 a3
  cases h
  obtain⟨x,hT⟩:=sX hp;clear hp
  simp only[hT,Option.getD_some]
  refine hand0 rfl rfl fun w0 M ε0 hX=>rCount fun hε => ?_
  unfold tcoef_Right at hT
  refine zA hX ?_
  let x1:=(bif(bif(bif(bif(decide ((0:Int)<=a2))then(decide (a2<=63))else false)then(decide (a3≠0))else false)then(decide (((-127):Int)<=a3))else false)then(decide (a3<=127))else false)
  refine zA hX ?_
  refine rRet ?_
  have hy:=sJ hT;subst hy
  exact zEnd0 hX rfl
 .cases h
def runs_Levels_b1(N:Nat)(a1:Zt3)(s1:Zt8):Option (Zt8⊕(Unit⊕(List Int))):=
 bif(decide (s1.2.1<(a1.length:Int)))then
  if(0:Int)<=s1.2.1/\s1.2.1<(a1.length:Int)then
   let c1:=(tcoef_Right N (a1.getD (s1.2.1).toNat Zd1).1 (a1.getD (s1.2.1).toNat Zd1).2.1 (a1.getD (s1.2.1).toNat Zd1).2.2)
   let x5:=(bif(bif(!(c1.getD default))then true else(!((a1.getD (s1.2.1).toNat Zd1).1==(decide (s1.2.1=((a1.length:Int)-1))))))then true else(decide ((64:Int)<=(s1.1+(a1.getD (s1.2.1).toNat Zd1).2.1))))
   if c1.isSome=true/\((!(!(c1.getD default)))=true->inK .i64 ((a1.length:Int)-1))/\((!(bif(!(c1.getD default))then true else(!((a1.getD (s1.2.1).toNat Zd1).1==(decide (s1.2.1=((a1.length:Int)-1)))))))=true->inK .i64 (s1.1+(a1.getD (s1.2.1).toNat Zd1).2.1))then
    bif x5 then
     some (.inr (Sum.inl ()))
    else
     if inK .i64 (s1.1+(a1.getD (s1.2.1).toNat Zd1).2.1)then
      let x6:=(s1.2.2.set (s1.1+(a1.getD (s1.2.1).toNat Zd1).2.1).toNat (a1.getD (s1.2.1).toNat Zd1).2.2)
      if(0:Int)<=(s1.1+(a1.getD (s1.2.1).toNat Zd1).2.1)/\(s1.1+(a1.getD (s1.2.1).toNat Zd1).2.1)<64/\(s1.1+(a1.getD (s1.2.1).toNat Zd1).2.1).toNat<64 then
       if inK .i64 ((s1.1+(a1.getD (s1.2.1).toNat Zd1).2.1)+1)then
        if inK .i64 (s1.2.1+1)then
         some (.inl (((s1.1+(a1.getD (s1.2.1).toNat Zd1).2.1)+1),(s1.2.1+1),x6))
        else none
       else none
      else none
     else none
   else none
  else none
 else
  some (.inr (Sum.inr s1.2.2))
def runs_Levels(N:Nat)(a1:Zt3)(a2:Int):Option ((List Int)×Int):=
 bif(bif(decide (a2≠0))then(decide (a2≠1))else false)then
  some ((List.replicate 64 0),1)
 else
  (iter (runs_Levels_b1 N a1) N (a2,0,(List.replicate 64 0))).bind fun w1=>
   (Sum.elim (fun v1=>
    some ((List.replicate 64 0),7)
   )
    (fun v2=>
     some (v2,0)
    )
   ) w1
def sp_runs_Levels(N:Nat):X.Spec:=fun args lk=>match args with
 | [.v (.c (.fz (.pair .bool (.pair (.int .i64) (.int .i64))) a1)),.v (.c (.int .i64 a2))]=>some ⟨(runs_Levels N a1 a2).isSome=true,.tup [.agg [.ints 64 .i64 ((runs_Levels N a1 a2).getD default).1],.c (.int .i64 ((runs_Levels N a1 a2).getD default).2)],[],[]⟩
 | _=>none
theorem ok_runs_Levels(N:Nat):FnOK Tryz.prog gt0 64 (sp_runs_Levels N):=by
 refine fnOK_handed Tryz.func64 rfl (by kernel_rfl) tt_ok (ktCons (ok_tcoef_Right N) (ktNil)) ?_
 intro args lk r h hp
 unfold sp_runs_Levels at h
 split at h
 .rename_i a1 a2
  change Zt3 at a1
  cases h
  obtain⟨x,hT⟩:=sX hp;clear hp
  simp only[hT,Option.getD_some]
  refine hand0 rfl rfl fun w0 M ε0 hX=>rCount fun hε => ?_
  unfold runs_Levels at hT
  refine zA hX ?_
  refine rSeq (zA hX ?_)
  refine zCond rfl rfl (fun hc => ?_) (fun hc => ?_)
  .replace hT:=sT hc hT
   refine zA hX ?_
   refine rRet (rThenRet ?_)
   have hy:=sJ hT;subst hy
   exact zEnd0 hX rfl
  .replace hT:=sF hc hT
   refine rSkip (rThen (zA hX ?_))
   refine zA hX ?_
   refine rSeq (zA hX ?_)
   refine rBlock ?_
   replace hT:=sBind hT;obtain⟨w1,hl,hT⟩:=hT
   refine rJoinA (fun v1=>(Sum.inl v1)=w1) (fun v1=>⟨[(4,.v (.c (.ptr 0 0 0 0 0 0))),(5,.v (.c (.int .i64 7)))],[(0,.mem true 62 none (.flat [.ints 64 .i64 (List.replicate 64 0)]))],2⟩) .ret (fun v1 hv => ?_) (fun hxs10 => ?_)
   .subst hv;clear hl;replace hT:=(sElimL hT)
    refine rInRet (rThenRet ?_)
    have hy:=sJ hT;subst hy
    exact zEnd0 hX rfl
   refine rJoinA (fun v2=>(Sum.inr v2)=w1) (fun v2=>⟨[(4,.v (.c (.ptr 0 0 0 0 0 0))),(5,.v (.c (.int .i64 0))),(6,.v (.c (.ptr 1 0 0 0 0 0)))],[(0,.mem true 62 none (.flat [.ints 64 .i64 (List.replicate 64 0)])),(1,.mem true 62 none (.flat [.ints 64 .i64 v2]))],2⟩) (.exit 0) (fun v2 hv => ?_) (fun hxs11 => ?_)
   .subst hv;clear hl;replace hT:=(sElimR hT)
    refine rInHit (rThen (zA hX ?_))
    refine rRet ?_
    have hy:=sJ hT;subst hy
    exact zEnd0 hX rfl
   refine rLoopM (runs_Levels_b1 N a1) (fun s1=>⟨[(0,.v (.c (.fz Zs1 a1))),(4,.v (.c (.ptr 0 0 0 0 0 0))),(5,.v (.c (.int .i64 0))),(6,.v (.c (.ptr 1 0 0 0 0 0))),(7,.v (.c (.int .i64 s1.1))),(18,.v (.c (.fz Zs1 a1))),(19,.v (.c (.int .i64 (a1.length:Int)))),(20,.v (.c (.int .i64 s1.2.1)))],[(0,.mem true 62 none (.flat [.ints 64 .i64 (List.replicate 64 0)])),(1,.mem true 62 none (.flat [.ints 64 .i64 s1.2.2]))],2⟩) hl (To.mk' [] 0 hε rfl zL zL) (fun s1 zs1 NNs1 hz hnexts1 houts1 => ?_)
   clear hl hT
   have hT:=hz;clear hz
   refine zA hX ?_
   refine rSeq ?_
   refine zCond rfl rfl (fun hc => ?_) (fun hc => ?_)
   .replace hT:=sT hc hT
    refine rSkip (rThen (rSeq (rBlock ?_)))
    replace hT:=sIf hT;obtain⟨⟨o1,o2⟩,hT⟩:=hT
    refine zA hX ?_
    refine rSeq ?_
    let c1:=(tcoef_Right N (a1.getD (s1.2.1).toNat Zd1).1 (a1.getD (s1.2.1).toNat Zd1).2.1 (a1.getD (s1.2.1).toNat Zd1).2.2)
    let x5:=(bif(bif(!(c1.getD default))then true else(!((a1.getD (s1.2.1).toNat Zd1).1==(decide (s1.2.1=((a1.length:Int)-1))))))then true else(decide ((64:Int)<=(s1.1+(a1.getD (s1.2.1).toNat Zd1).2.1))))
    replace hT:=sIf hT;obtain⟨⟨o1,o2,o3⟩,hT⟩:=hT
    refine rSeq (rRegC md0 hX rfl rfl rfl zO ?_)
    refine rThen ?_
    refine zCond rfl rfl (fun hc => ?_) (fun hc => ?_)
    .replace hT:=sT hc hT
     refine zA hX ?_
     refine rRet (rThenRet (rInRet (rThenRet (rThenRet ?_))))
     exact zTo [] 0 hε (hxs10 _ (houts1 _ (sJ hT).symm))
    .replace hT:=sF hc hT
     refine rSkip (rThen ?_)
     replace hT:=sIf hT;obtain⟨o1,hT⟩:=hT
     refine zA hX ?_
     let x6:=(s1.2.2.set (s1.1+(a1.getD (s1.2.1).toNat Zd1).2.1).toNat (a1.getD (s1.2.1).toNat Zd1).2.2)
     replace hT:=sIf hT;obtain⟨⟨o1,o2,o3⟩,hT⟩:=hT
     refine zA hX ?_
     replace hT:=sIf hT;obtain⟨o1,hT⟩:=hT
     refine zReg md0 hX rfl rfl rfl ?_
     refine rInNormal (rThen ?_)
     replace hT:=sIf hT;obtain⟨o1,hT⟩:=hT
     refine zReg md0 hX rfl rfl rfl ?_
     exact hnexts1 _ (sJ hT).symm _ (To.mk' [] 0 hε rfl zL zL)
   .replace hT:=sF hc hT
    refine rExit (rThenExit (rThenExit ?_))
    exact zTo [] 0 hε (hxs11 _ (houts1 _ (sJ hT).symm))
 .cases h
def blocks_may(N:Nat)(a1:Bool)(a2:Int)(a3:Zt3):Option Bool:=
 let x1:=(bif(bif(!(a1==(decide (a2≠0))))then true else(decide (a2<0)))then true else(decide ((255:Int)<=a2)))
 bif x1 then
  some false
 else
  let c1:=(blocks_from N a1)
  let c2:=(runs_Levels N a3 (c1.getD default))
  if c1.isSome=true/\c2.isSome=true then
   some (decide ((c2.getD default).2=0))
  else none
def sp_blocks_may(N:Nat):X.Spec:=fun args lk=>match args with
 | [.v (.c (.bool a1)),.v (.c (.int .i64 a2)),.v (.c (.fz (.pair .bool (.pair (.int .i64) (.int .i64))) a3))]=>some ⟨(blocks_may N a1 a2 a3).isSome=true,.v (.c (.bool ((blocks_may N a1 a2 a3).getD default))),[],[]⟩
 | _=>none
theorem ok_blocks_may(N:Nat):FnOK Tryz.prog gt0 111 (sp_blocks_may N):=by
 refine fnOK_handed Tryz.func111 rfl (by kernel_rfl) tt_ok (ktCons (ok_runs_Levels N) (ktCons (ok_blocks_from N) (ktNil))) ?_
 intro args lk r h hp
 unfold sp_blocks_may at h
 split at h
 .rename_i a1 a2 a3
  change Zt3 at a3
  cases h
  obtain⟨x,hT⟩:=sX hp;clear hp
  simp only[hT,Option.getD_some]
  refine hand0 rfl rfl fun w0 M ε0 hX=>rCount fun hε => ?_
  unfold blocks_may at hT
  refine zA hX ?_
  refine rSeq ?_
  let x1:=(bif(bif(!(a1==(decide (a2≠0))))then true else(decide (a2<0)))then true else(decide ((255:Int)<=a2)))
  refine zA hX ?_
  refine zCond rfl rfl (fun hc => ?_) (fun hc => ?_)
  .replace hT:=sT hc hT
   refine zA hX ?_
   refine rRet (rThenRet ?_)
   have hy:=sJ hT;subst hy
   exact zEnd0 hX rfl
  .replace hT:=sF hc hT
   refine rSkip (rThen ?_)
   let c1:=(blocks_from N a1)
   let c2:=(runs_Levels N a3 (c1.getD default))
   replace hT:=sIf hT;obtain⟨⟨o1,o2⟩,hT⟩:=hT
   refine zA hX ?_
   refine zA hX ?_
   refine rRet ?_
   have hy:=sJ hT;subst hy
   exact zEnd0 hX rfl
 .cases h
def outbits_fits(N:Nat)(a1:Int)(a2:Int):Option Bool:=
 let x1:=(bif(bif(bif(decide ((0:Int)<=a2))then(decide (a2<=32))else false)then(decide ((0:Int)<=a1))else false)then(decide (a1<((1:Int)*2 ^ (Int.toNat a2))))else false)
 if((bif(bif(decide ((0:Int)<=a2))then(decide (a2<=32))else false)then(decide ((0:Int)<=a1))else false)=true->inK .u64 a2)/\((bif(bif(decide ((0:Int)<=a2))then(decide (a2<=32))else false)then(decide ((0:Int)<=a1))else false)=true->(0:Int)<=a2)/\((bif(bif(decide ((0:Int)<=a2))then(decide (a2<=32))else false)then(decide ((0:Int)<=a1))else false)=true->(a2).toNat<=64)/\((bif(bif(decide ((0:Int)<=a2))then(decide (a2<=32))else false)then(decide ((0:Int)<=a1))else false)=true->inK .i64 ((1:Int)*2 ^ (Int.toNat a2)))then
  some x1
 else none
def sp_outbits_fits(N:Nat):X.Spec:=fun args lk=>match args with
 | [.v (.c (.int .i64 a1)),.v (.c (.int .i64 a2))]=>some ⟨(outbits_fits N a1 a2).isSome=true,.v (.c (.bool ((outbits_fits N a1 a2).getD default))),[],[]⟩
 | _=>none
theorem ok_outbits_fits(N:Nat):FnOK Tryz.prog gt0 123 (sp_outbits_fits N):=by
 refine fnOK_handed Tryz.func123 rfl (by kernel_rfl) tt_ok (ktNil) ?_
 intro args lk r h hp
 unfold sp_outbits_fits at h
 split at h
 .rename_i a1 a2
  cases h
  obtain⟨x,hT⟩:=sX hp;clear hp
  simp only[hT,Option.getD_some]
  refine hand0 rfl rfl fun w0 M ε0 hX=>rCount fun hε => ?_
  unfold outbits_fits at hT
  refine zA hX ?_
  let x1:=(bif(bif(bif(decide ((0:Int)<=a2))then(decide (a2<=32))else false)then(decide ((0:Int)<=a1))else false)then(decide (a1<((1:Int)*2 ^ (Int.toNat a2))))else false)
  replace hT:=sIf hT;obtain⟨⟨o1,o2,o3,o4⟩,hT⟩:=hT
  refine rSeq (rRegC md0 hX rfl rfl rfl zO ?_)
  refine rThen (rRet ?_)
  have hy:=sJ hT;subst hy
  exact zEnd0 hX rfl
 .cases h
def overspill_outbits_Writer_bit(N:Nat)(a1:Bool)(a2:(List Bool)):Option (List Bool):=
 if(a2.length:Int)<=9223372036854775800 then
  if(0:Int)<=(a2.length:Int)then
   joinK (fun(v1:Zt7)=>
    if(a1=true->(0:Int)<=(a2.length:Int))/\(a1=true->(0:Int)<=((a2.length:Int)/8))/\(a1=true->((a2.length:Int)/8)<(v1.1:Int))/\(a1=true->((a2.length:Int)/8).toNat<v1.2.1)/\(a1=true->inK .i64 ((7:Int)-((a2.length:Int)%8)))/\(a1=true->inK .u64 ((7:Int)-((a2.length:Int)%8)))/\(a1=true->(0:Int)<=((7:Int)-((a2.length:Int)%8)))/\(a1=true->(((7:Int)-((a2.length:Int)%8))).toNat<=8)/\(a1=true->inK .u8 ((1:Int)*2 ^ (Int.toNat ((7:Int)-((a2.length:Int)%8)))))/\(a1=true->(0:Int)<=(v1.2.2.getD ((a2.length:Int)/8).toNat 0))/\(a1=true->(0:Int)<=((1:Int)*2 ^ (Int.toNat ((7:Int)-((a2.length:Int)%8)))))then
     let x1:=(bif a1 then(v1.2.2.set ((a2.length:Int)/8).toNat (orI (v1.2.2.getD ((a2.length:Int)/8).toNat 0) ((1:Int)*2 ^ (Int.toNat ((7:Int)-((a2.length:Int)%8))))))else v1.2.2)
     if inK .i64 ((a2.length:Int)+1)then
      if v1.2.1=v1.1/\packB (unpB x1 ((a2.length:Int)+1))=x1/\((unpB x1 ((a2.length:Int)+1)).length:Int)=((a2.length:Int)+1)then
       some (unpB x1 ((a2.length:Int)+1))
      else none
     else none
    else none
   ) fun k1=>
    bif(decide (((a2.length:Int)%8)=0))then
     if 1<=1/\(((a2.length+7)/8)+1)*1<=140737488355328/\((a2.length+7)/8)+1<=9223372036854775807 then
      k1 ((((a2.length+7)/8)+1),(((a2.length+7)/8)+1),((packB a2)++(((List.replicate 1 0).set 0 0).take 1)))
     else none
    else
     k1 (((a2.length+7)/8),((a2.length+7)/8),(packB a2))
  else none
 else none
def sp_overspill_outbits_Writer_bit(N:Nat):X.Spec:=fun args lk=>match args with
 | [.v (.c (.ptr i0 0 0 0 0 0)),.v (.c (.bool a1))]=>(match lk i0 with
  | some (.obj 5 a2)=>some ⟨(overspill_outbits_Writer_bit N a1 a2).isSome=true,.tup [],[],[(i0,.obj 5 ((overspill_outbits_Writer_bit N a1 a2).getD default))]⟩
  | _=>none)
 | _=>none
theorem ok_overspill_outbits_Writer_bit(N:Nat):FnOK Tryz.prog gt0 124 (sp_overspill_outbits_Writer_bit N):=by
 refine fnOK_handed Tryz.func124 rfl (by kernel_rfl) tt_ok (ktNil) ?_
 intro args lk r h hp
 unfold sp_overspill_outbits_Writer_bit at h
 split at h
 .rename_i i0 a1
  split at h
  .rename_i a2 hl0
   cases h
   obtain⟨x,hT⟩:=sX hp;clear hp
   simp only[hT,Option.getD_some]
   refine handL [i0] 1 [(0,.obj 5 a2)] [.v (.c (.ptr 0 0 0 0 0 0)),.v (.c (.bool a1))] rfl rfl rfl ⟨isSome_of hl0,trivial⟩ ⟨⟨rfl,zT,_,hl0,.inl rfl⟩,trivial⟩ rfl (fun w0 M ε0 hX => ?_)
   refine rCount (fun hε => ?_)
   unfold overspill_outbits_Writer_bit at hT
   replace hT:=sIf hT;obtain⟨p0,hT⟩:=hT
   refine rOpen1 p0 zF (fun ty0 => ?_)
   refine rSeq ?_
   replace hT:=sIf hT;obtain⟨o1,hT⟩:=hT
   refine zA hX ?_
   refine rJoinK hT (fun v1=>⟨[(0,.v (.c (.ptr 0 0 0 0 0 0))),(1,.v (.c (.bool a1)))],[(0,.mem true ty0 none (.flat [.cs [.sl 3 0 v1.1 1,.int .i64 (a2.length:Int)]])),(3,.mem true 5 (some 1) (.flat [.ints v1.2.1 .u8 v1.2.2]))],4⟩) (fun v1 hT => ?_) (fun k1 hjk1 hT => ?_)
   .refine rThen (rSeq (zA hX ?_))
    replace hT:=sIf hT;obtain⟨⟨q1,q2,q3,q4,q5,q6,q7,q8,q9,q10,q11⟩,hT⟩:=hT
    refine rJoin ⟨[(0,.v (.c (.ptr 0 0 0 0 0 0)))],[(0,.mem true ty0 none (.flat [.cs [.sl 3 0 v1.1 1,.int .i64 (a2.length:Int)]])),(3,.mem true 5 (some 1) (.flat [.ints v1.2.1 .u8 (bif a1 then(v1.2.2.set ((a2.length:Int)/8).toNat (orI (v1.2.2.getD ((a2.length:Int)/8).toNat 0) ((1:Int)*2 ^ (Int.toNat ((7:Int)-((a2.length:Int)%8))))))else v1.2.2)]))],4⟩ ?_ (fun hj => ?_)
    .let x1:=(bif a1 then(v1.2.2.set ((a2.length:Int)/8).toNat (orI (v1.2.2.getD ((a2.length:Int)/8).toNat 0) ((1:Int)*2 ^ (Int.toNat ((7:Int)-((a2.length:Int)%8))))))else v1.2.2)
     refine rThen ?_
     replace hT:=sIf hT;obtain⟨o1,hT⟩:=hT
     refine zReg md0 hX rfl rfl rfl ?_
     refine rNormal ?_
     replace hT:=sIf hT;obtain⟨⟨p1,p2,p3⟩,hT⟩:=hT
     have hy:=sJ hT;subst hy
     exact rEndObj (unpB x1 ((a2.length:Int)+1)) hX rfl zZ rfl rfl rfl rfl rfl (by assumption) rfl (by first|rfl|assumption) (by first|rfl|assumption) rfl rfl
    .clear hT
     refine zCond rfl rfl (fun hc => ?_) (fun hc => ?_)
     .have q1:=q1 hc
      have q2:=q2 hc
      have q3:=q3 hc
      have q4:=q4 hc
      have q5:=q5 hc
      have q6:=q6 hc
      have q7:=q7 hc
      have q8:=q8 hc
      have q9:=q9 hc
      have q10:=q10 hc
      have q11:=q11 hc
      refine zDraw md0 1 [21] hX mixed rfl rfl rfl rfl rfl ?_
      exact rTo (To.mk' [] 1 hε rfl zJ zJ) hj
     .refine rSkip ?_
      exact rTo (To.mk' [] 1 hε rfl zJ zJ) hj
   .refine zCond rfl rfl (fun hc => ?_) (fun hc => ?_)
    .replace hT:=sT hc hT
     replace hT:=sIf hT;obtain⟨⟨o1,o2,o3⟩,hT⟩:=hT
     refine zReg md0 hX rfl rfl rfl ?_
     exact zTo [] 1 hε (hjk1 _ hT)
    .replace hT:=sF hc hT
     refine rSkip ?_
     exact zTo [0,1,0,1] 1 hε (hjk1 _ hT)
  .cases h
 .cases h
def overspill_outbits_Writer_Put_b1(N:Nat)(a1:Int) (s1:(Int×(List Bool))):Option ((Int×(List Bool))⊕(List Bool)):=
 bif(decide ((0:Int)<=s1.1))then
  let c2:=(overspill_outbits_Writer_bit N (decide (((Int.toNat (a1/2 ^ (Int.toNat s1.1)) &&& Int.toNat 1:Nat):Int)=1)) s1.2)
  if inK .u64 s1.1/\(0:Int)<=s1.1/\(s1.1).toNat<=64/\(0:Int)<=(a1/2 ^ (Int.toNat s1.1))/\c2.isSome=true then
   if inK .i64 (s1.1-1)then
    some (.inl ((s1.1-1),(c2.getD default)))
   else none
  else none
 else
  some (.inr s1.2)
def overspill_outbits_Writer_Put(N:Nat)(a1:Int)(a2:Int)(a3:(List Bool)):Option (Int×(List Bool)):=
 let c1:=(outbits_fits N a1 a2)
 if((!false)=true->c1.isSome=true)then
  bif(!(c1.getD default))then
   some (1,a3)
  else
   if inK .i64 (a2-1)then
    (iter (overspill_outbits_Writer_Put_b1 N a1) N ((a2-1),a3)).bind fun v1=>
     some (0,v1)
   else none
 else none
def sp_overspill_outbits_Writer_Put(N:Nat):X.Spec:=fun args lk=>match args with
 | [.v (.c (.ptr i0 0 0 0 0 0)),.v (.c (.int .i64 a1)),.v (.c (.int .i64 a2))]=>(match lk i0 with
  | some (.obj 5 a3)=>some ⟨(overspill_outbits_Writer_Put N a1 a2 a3).isSome=true,.v (.c (.int .i64 ((overspill_outbits_Writer_Put N a1 a2 a3).getD default).1)),[],[(i0,.obj 5 ((overspill_outbits_Writer_Put N a1 a2 a3).getD default).2)]⟩
  | _=>none)
 | _=>none
theorem ok_overspill_outbits_Writer_Put(N:Nat):FnOK Tryz.prog gt0 112 (sp_overspill_outbits_Writer_Put N):=by
 refine fnOK_handed Tryz.func112 rfl (by kernel_rfl) tt_ok (ktCons (ok_overspill_outbits_Writer_bit N) (ktCons (ok_outbits_fits N) (ktNil))) ?_
 intro args lk r h hp
 unfold sp_overspill_outbits_Writer_Put at h
 split at h
 .rename_i i0 a1 a2
  split at h
  .rename_i a3 hl0
   cases h
   obtain⟨x,hT⟩:=sX hp;clear hp
   simp only[hT,Option.getD_some]
   refine handL [i0] 1 [(0,.obj 5 a3)] [.v (.c (.ptr 0 0 0 0 0 0)),.v (.c (.int .i64 a1)),.v (.c (.int .i64 a2))] rfl rfl rfl ⟨isSome_of hl0,trivial⟩ ⟨⟨rfl,zT,_,hl0,.inl rfl⟩,trivial⟩ rfl (fun w0 M ε0 hX => ?_)
   refine rCount (fun hε => ?_)
   unfold overspill_outbits_Writer_Put at hT
   refine zA hX ?_
   refine rSeq ?_
   let c1:=(outbits_fits N a1 a2)
   replace hT:=sIf hT;obtain⟨o1,hT⟩:=hT
   refine rSeq (rRegC md0 hX rfl rfl rfl zO ?_)
   refine rThen ?_
   refine zCond rfl rfl (fun hc => ?_) (fun hc => ?_)
   .replace hT:=sT hc hT
    refine zA hX ?_
    refine rRet (rThenRet ?_)
    have hy:=sJ hT;subst hy
    exact rEndA [] [] [(0,.obj 5 a3)] (.v (.c (.int .i64 1))) hX rfl zZ zL rfl rfl rfl zT rfl rfl zT rfl rfl
   .replace hT:=sF hc hT
    refine rSkip (rThen (rSeq ?_))
    replace hT:=sIf hT;obtain⟨o1,hT⟩:=hT
    refine zA hX ?_
    refine rBlock ?_
    replace hT:=sBind hT;obtain⟨w1,hl,hT⟩:=hT
    refine rJoinA (fun v1=>v1=w1) (fun v1=>⟨[(6,.v (.c (.int .i64 0)))],[(0,.obj 5 v1)],1⟩) (.exit 0) (fun v1 hv => ?_) (fun hxs10 => ?_)
    .subst hv;clear hl
     refine rInHit (rThen (zA hX ?_))
     refine rRet ?_
     have hy:=sJ hT;subst hy
     exact rEndA [] [] [(0,.obj 5 v1)] (.v (.c (.int .i64 0))) hX rfl zZ zL rfl rfl rfl zT rfl rfl zT rfl rfl
    refine rLoopM (overspill_outbits_Writer_Put_b1 N a1) (fun s1=>⟨[(0,.v (.c (.ptr 0 0 0 0 0 0))),(1,.v (.c (.int .i64 a1))),(6,.v (.c (.int .i64 0))),(7,.v (.c (.int .i64 s1.1)))],[(0,.obj 5 s1.2)],1⟩) hl (To.mk' [] 1 hε rfl zL zL) (fun s1 zs1 NNs1 hz hnexts1 houts1 => ?_)
    clear hl hT
    have hT:=hz;clear hz
    refine rSeq (zA hX ?_)
    refine zCond rfl rfl (fun hc => ?_) (fun hc => ?_)
    .replace hT:=sT hc hT
     refine rSkip (rThen (rSeq (rBlock ?_)))
     let c2:=(overspill_outbits_Writer_bit N (decide (((Int.toNat (a1/2 ^ (Int.toNat s1.1)) &&& Int.toNat 1:Nat):Int)=1)) s1.2)
     replace hT:=sIf hT;obtain⟨⟨o1,o2,o3,o4,o5⟩,hT⟩:=hT
     refine zReg md0 hX rfl rfl rfl ?_
     refine rInNormal (rThen ?_)
     replace hT:=sIf hT;obtain⟨o1,hT⟩:=hT
     refine zReg md0 hX rfl rfl rfl ?_
     exact hnexts1 _ (sJ hT).symm _ (To.mk' [] 1 hε rfl zL zL)
    .replace hT:=sF hc hT
     refine rExit (rThenExit (rThenExit ?_))
     exact zTo [] 1 hε (hxs10 _ (houts1 _ (sJ hT).symm))
  .cases h
 .cases h
def tcoef_many(N:Nat)(a1:Bool)(a2:Int):Option Int:=
 bif(bif a1 then(decide (a2=0))else false)then
  some 3
 else
  bif(bif a1 then(decide (a2=1))else false)then
   some 2
  else
   bif(bif a1 then(decide (a2<=40))else false)then
    some 1
   else
    bif a1 then
     some 0
    else
     bif(decide (a2=0))then
      some 12
     else
      bif(decide (a2=1))then
       some 6
      else
       bif(decide (a2=2))then
        some 4
       else
        bif(decide (a2<=6))then
         some 3
        else
         bif(decide (a2<=10))then
          some 2
         else
          bif(decide (a2<=26))then
           some 1
          else
           some 0
def sp_tcoef_many(N:Nat):X.Spec:=fun args lk=>match args with
 | [.v (.c (.bool a1)),.v (.c (.int .i64 a2))]=>some ⟨(tcoef_many N a1 a2).isSome=true,.v (.c (.int .i64 ((tcoef_many N a1 a2).getD default))),[],[]⟩
 | _=>none
theorem ok_tcoef_many(N:Nat):FnOK Tryz.prog gt0 131 (sp_tcoef_many N):=by
 refine fnOK_handed Tryz.func131 rfl (by kernel_rfl) tt_ok (ktNil) ?_
 intro args lk r h hp
 unfold sp_tcoef_many at h
 split at h
 .rename_i a1 a2
  cases h
  obtain⟨x,hT⟩:=sX hp;clear hp
  simp only[hT,Option.getD_some]
  refine hand0 rfl rfl fun w0 M ε0 hX=>rCount fun hε => ?_
  unfold tcoef_many at hT
  refine zA hX ?_
  refine rSeq (rBlock (zA hX ?_))
  refine zCond rfl rfl (fun hc => ?_) (fun hc => ?_)
  .replace hT:=sT hc hT
   refine zA hX ?_
   refine rRet (rInRet (rThenRet ?_))
   have hy:=sJ hT;subst hy
   exact zEnd0 hX rfl
  .replace hT:=sF hc hT
   refine zA hX ?_
   refine zCond rfl rfl (fun hc => ?_) (fun hc => ?_)
   .replace hT:=sT hc hT
    refine zA hX ?_
    refine rRet (rInRet (rThenRet ?_))
    have hy:=sJ hT;subst hy
    exact zEnd0 hX rfl
   .replace hT:=sF hc hT
    refine zA hX ?_
    refine zCond rfl rfl (fun hc => ?_) (fun hc => ?_)
    .replace hT:=sT hc hT
     refine zA hX ?_
     refine rRet (rInRet (rThenRet ?_))
     have hy:=sJ hT;subst hy
     exact zEnd0 hX rfl
    .replace hT:=sF hc hT
     refine zA hX ?_
     refine zCond rfl rfl (fun hc => ?_) (fun hc => ?_)
     .replace hT:=sT hc hT
      refine zA hX ?_
      refine rRet (rInRet (rThenRet ?_))
      have hy:=sJ hT;subst hy
      exact zEnd0 hX rfl
     .replace hT:=sF hc hT
      refine zA hX ?_
      refine zCond rfl rfl (fun hc => ?_) (fun hc => ?_)
      .replace hT:=sT hc hT
       refine zA hX ?_
       refine rRet (rInRet (rThenRet ?_))
       have hy:=sJ hT;subst hy
       exact zEnd0 hX rfl
      .replace hT:=sF hc hT
       refine zA hX ?_
       refine zCond rfl rfl (fun hc => ?_) (fun hc => ?_)
       .replace hT:=sT hc hT
        refine zA hX ?_
        refine rRet (rInRet (rThenRet ?_))
        have hy:=sJ hT;subst hy
        exact zEnd0 hX rfl
       .replace hT:=sF hc hT
        refine zA hX ?_
        refine zCond rfl rfl (fun hc => ?_) (fun hc => ?_)
        .replace hT:=sT hc hT
         refine zA hX ?_
         refine rRet (rInRet (rThenRet ?_))
         have hy:=sJ hT;subst hy
         exact zEnd0 hX rfl
        .replace hT:=sF hc hT
         refine zA hX ?_
         refine zCond rfl rfl (fun hc => ?_) (fun hc => ?_)
         .replace hT:=sT hc hT
          refine zA hX ?_
          refine rRet (rInRet (rThenRet ?_))
          have hy:=sJ hT;subst hy
          exact zEnd0 hX rfl
         .replace hT:=sF hc hT
          refine zA hX ?_
          refine zCond rfl rfl (fun hc => ?_) (fun hc => ?_)
          .replace hT:=sT hc hT
           refine zA hX ?_
           refine rRet (rInRet (rThenRet ?_))
           have hy:=sJ hT;subst hy
           exact zEnd0 hX rfl
          .replace hT:=sF hc hT
           refine zA hX ?_
           refine zCond rfl rfl (fun hc => ?_) (fun hc => ?_)
           .replace hT:=sT hc hT
            refine zA hX ?_
            refine rRet (rInRet (rThenRet ?_))
            have hy:=sJ hT;subst hy
            exact zEnd0 hX rfl
           .replace hT:=sF hc hT
            refine rSkip (rInNormal (rThen (zA hX ?_)))
            refine rRet ?_
            have hy:=sJ hT;subst hy
            exact zEnd0 hX rfl
 .cases h
def tcoef_place_b1(N:Nat)(a1:Bool)(a2:Int)(s1:(Int×Int)):Option ((Int×Int)⊕Int):=
 bif(decide (s1.2<a2))then
  let c2:=(tcoef_many N a1 s1.2)
  if c2.isSome=true/\inK .i64 (s1.1+(c2.getD default))then
   if inK .i64 (s1.2+1)then
    some (.inl ((s1.1+(c2.getD default)),(s1.2+1)))
   else none
  else none
 else
  some (.inr s1.1)
def tcoef_place_b2(N:Nat)(s2:(Int×Int)):Option ((Int×Int)⊕Int):=
 bif(decide (s2.2<63))then
  let c3:=(tcoef_many N false s2.2)
  if c3.isSome=true/\inK .i64 (s2.1+(c3.getD default))then
   if inK .i64 (s2.2+1)then
    some (.inl ((s2.1+(c3.getD default)),(s2.2+1)))
   else none
  else none
 else
  some (.inr s2.1)
def tcoef_place(N:Nat)(a1:Bool)(a2:Int)(a3:Int):Option Int:=
 let c1:=(tcoef_many N a1 a2)
 if c1.isSome=true then
  bif(decide ((c1.getD default)<a3))then
   some (-1)
  else
   joinK (fun(v1:Int)=>
    (iter (tcoef_place_b1 N a1 a2) N (v1,0)).bind fun v2=>
     if inK .i64 (v2+a3)/\inK .i64 ((v2+a3)-1)then
      some ((v2+a3)-1)
     else none
   ) fun k1=>
    bif a1 then
     (iter (tcoef_place_b2 N) N (0,0)).bind fun v3=>
      k1 v3
    else
     k1 0
 else none
def sp_tcoef_place(N:Nat):X.Spec:=fun args lk=>match args with
 | [.v (.c (.bool a1)),.v (.c (.int .i64 a2)),.v (.c (.int .i64 a3))]=>some ⟨(tcoef_place N a1 a2 a3).isSome=true,.v (.c (.int .i64 ((tcoef_place N a1 a2 a3).getD default))),[],[]⟩
 | _=>none
theorem ok_tcoef_place(N:Nat):FnOK Tryz.prog gt0 125 (sp_tcoef_place N):=by
 refine fnOK_handed Tryz.func125 rfl (by kernel_rfl) tt_ok (ktCons (ok_tcoef_many N) (ktNil)) ?_
 intro args lk r h hp
 unfold sp_tcoef_place at h
 split at h
 .rename_i a1 a2 a3
  cases h
  obtain⟨x,hT⟩:=sX hp;clear hp
  simp only[hT,Option.getD_some]
  refine hand0 rfl rfl fun w0 M ε0 hX=>rCount fun hε => ?_
  unfold tcoef_place at hT
  refine zA hX ?_
  refine rSeq ?_
  let c1:=(tcoef_many N a1 a2)
  replace hT:=sIf hT;obtain⟨o1,hT⟩:=hT
  refine zA hX ?_
  refine zCond rfl rfl (fun hc => ?_) (fun hc => ?_)
  .replace hT:=sT hc hT
   refine zA hX ?_
   refine rRet (rThenRet ?_)
   have hy:=sJ hT;subst hy
   exact zEnd0 hX rfl
  .replace hT:=sF hc hT
   refine rSkip (rThen (zA hX ?_))
   refine rSeq (zA hX ?_)
   refine rJoinK hT (fun v1=>⟨[(0,.v (.c (.bool a1))),(1,.v (.c (.int .i64 a2))),(2,.v (.c (.int .i64 a3))),(6,.v (.c (.int .i64 0))),(7,.v (.c (.int .i64 v1)))],[],0⟩) (fun v1 hT => ?_) (fun k1 hjk1 hT => ?_)
   .refine rThen (rSeq (zA hX ?_))
    refine rBlock ?_
    replace hT:=sBind hT;obtain⟨w1,hl,hT⟩:=hT
    refine rJoinA (fun v2=>v2=w1) (fun v2=>⟨[(2,.v (.c (.int .i64 a3))),(6,.v (.c (.int .i64 0))),(7,.v (.c (.int .i64 v2)))],[],0⟩) (.exit 2) (fun v2 hv => ?_) (fun hxs10 => ?_)
    .subst hv;clear hl
     refine rInHit (rThen ?_)
     replace hT:=sIf hT;obtain⟨⟨o1,o2⟩,hT⟩:=hT
     refine zA hX ?_
     refine rRet ?_
     have hy:=sJ hT;subst hy
     exact zEnd0 hX rfl
    refine rLoopM (tcoef_place_b1 N a1 a2) (fun s1=>⟨[(0,.v (.c (.bool a1))),(2,.v (.c (.int .i64 a3))),(6,.v (.c (.int .i64 0))),(7,.v (.c (.int .i64 s1.1))),(24,.v (.c (.int .i64 a2))),(25,.v (.c (.int .i64 s1.2)))],[],0⟩) hl (To.mk' [] 0 hε rfl zL zL) (fun s1 zs1 NNs1 hz hnexts1 houts1 => ?_)
    clear hl hT
    have hT:=hz;clear hz
    refine zA hX ?_
    refine rSeq ?_
    refine zCond rfl rfl (fun hc => ?_) (fun hc => ?_)
    .replace hT:=sT hc hT
     refine rSkip (rThen (rSeq (rBlock (zA hX ?_))))
     let c2:=(tcoef_many N a1 s1.2)
     replace hT:=sIf hT;obtain⟨⟨o1,o2⟩,hT⟩:=hT
     refine zReg md0 hX rfl rfl rfl ?_
     refine rInNormal (rThen ?_)
     replace hT:=sIf hT;obtain⟨o1,hT⟩:=hT
     refine zReg md0 hX rfl rfl rfl ?_
     exact hnexts1 _ (sJ hT).symm _ (To.mk' [] 0 hε rfl zL zL)
    .replace hT:=sF hc hT
     refine rExit (rThenExit (rThenExit ?_))
     exact zTo [] 0 hε (hxs10 _ (houts1 _ (sJ hT).symm))
   .refine zCond rfl rfl (fun hc => ?_) (fun hc => ?_)
    .replace hT:=sT hc hT
     refine zA hX ?_
     refine rBlock ?_
     replace hT:=sBind hT;obtain⟨w2,hl,hT⟩:=hT
     refine rJoinA (fun v3=>v3=w2) (fun v3=>⟨[(0,.v (.c (.bool a1))),(1,.v (.c (.int .i64 a2))),(2,.v (.c (.int .i64 a3))),(6,.v (.c (.int .i64 0))),(7,.v (.c (.int .i64 v3)))],[],0⟩) (.exit 0) (fun v3 hv => ?_) (fun hxs20 => ?_)
     .subst hv;clear hl
      refine rInHit ?_
      exact zTo [] 0 hε (hjk1 _ hT)
     refine rLoopM (tcoef_place_b2 N) (fun s2=>⟨[(0,.v (.c (.bool a1))),(1,.v (.c (.int .i64 a2))),(2,.v (.c (.int .i64 a3))),(6,.v (.c (.int .i64 0))),(7,.v (.c (.int .i64 s2.1))),(16,.v (.c (.int .i64 s2.2)))],[],0⟩) hl (To.mk' [] 0 hε rfl zL zL) (fun s2 zs2 NNs2 hz hnexts2 houts2 => ?_)
     clear hl hT
     have hT:=hz;clear hz
     refine zA hX ?_
     refine rSeq ?_
     refine zCond rfl rfl (fun hc => ?_) (fun hc => ?_)
     .replace hT:=sT hc hT
      refine rSkip (rThen (rSeq (rBlock (zA hX ?_))))
      let c3:=(tcoef_many N false s2.2)
      replace hT:=sIf hT;obtain⟨⟨o1,o2⟩,hT⟩:=hT
      refine zReg md0 hX rfl rfl rfl ?_
      refine rInNormal (rThen ?_)
      replace hT:=sIf hT;obtain⟨o1,hT⟩:=hT
      refine zReg md0 hX rfl rfl rfl ?_
      exact hnexts2 _ (sJ hT).symm _ (To.mk' [] 0 hε rfl zL zL)
     .replace hT:=sF hc hT
      refine rExit (rThenExit (rThenExit ?_))
      exact zTo [] 0 hε (hxs20 _ (houts2 _ (sJ hT).symm))
    .replace hT:=sF hc hT
     refine rSkip ?_
     exact zTo [] 0 hε (hjk1 _ hT)
 .cases h
def outbits_Row_b1(N:Nat)(a1:Int) (s1:(Nat×Int×Nat×(List Int))):Option ((Nat×Int×Nat×(List Int))⊕Zt7):=
 bif(decide ((0:Int)<=s1.2.1))then
  let x2:(List Int):=(s1.2.2.2++(((List.replicate 1 0).set 0 ((48:Int)+((Int.toNat (a1/2 ^ (Int.toNat s1.2.1)) &&& Int.toNat 1:Nat):Int))).take 1))
  if inK .u64 s1.2.1/\(0:Int)<=s1.2.1/\(s1.2.1).toNat<=64/\(0:Int)<=(a1/2 ^ (Int.toNat s1.2.1))/\inK .u8 ((Int.toNat (a1/2 ^ (Int.toNat s1.2.1)) &&& Int.toNat 1:Nat):Int)/\inK .u8 ((48:Int)+((Int.toNat (a1/2 ^ (Int.toNat s1.2.1)) &&& Int.toNat 1:Nat):Int))/\1<=1/\s1.2.2.1=s1.1/\(s1.1+1)*1<=140737488355328/\s1.1+1<=9223372036854775807 then
   if inK .i64 (s1.2.1-1)then
    some (.inl ((s1.1+1),(s1.2.1-1),(s1.2.2.1+1),x2))
   else none
  else none
 else
  some (.inr (s1.1,s1.2.2.1,s1.2.2.2))
def outbits_Row(N:Nat)(a1:Int)(a2:Int):Option (ByteArray×Int):=
 let c1:=(outbits_fits N a1 a2)
 if c1.isSome=true then
  bif(!(c1.getD default))then
   some (⟨#[]⟩,1)
  else
   if(0:Int)<=a2/\a2*1<=140737488355328 then
    if inK .i64 (a2-1)then
     (iter (outbits_Row_b1 N a1) N (0,(a2-1),0,(List.replicate 0 0))).bind fun v1=>
      if v1.1<=v1.2.1/\(v1.1:Int)<=9223372036854775807 then
       some ((bytesOf (v1.2.2.take v1.1)),0)
      else none
    else none
   else none
 else none
def sp_outbits_Row(N:Nat):X.Spec:=fun args lk=>match args with
 | [.v (.c (.int .i64 a1)),.v (.c (.int .i64 a2))]=>some ⟨(outbits_Row N a1 a2).isSome=true,.tup [.c (.str ((outbits_Row N a1 a2).getD default).1),.c (.int .i64 ((outbits_Row N a1 a2).getD default).2)],[],[]⟩
 | _=>none
theorem ok_outbits_Row(N:Nat):FnOK Tryz.prog gt0 126 (sp_outbits_Row N):=by
 refine fnOK_handed Tryz.func126 rfl (by kernel_rfl) tt_ok (ktCons (ok_outbits_fits N) (ktNil)) ?_
 intro args lk r h hp
 unfold sp_outbits_Row at h
 split at h
 .rename_i a1 a2
  cases h
  obtain⟨x,hT⟩:=sX hp;clear hp
  simp only[hT,Option.getD_some]
  refine hand0 rfl rfl fun w0 M ε0 hX=>rCount fun hε => ?_
  unfold outbits_Row at hT
  refine zA hX ?_
  refine rSeq ?_
  let c1:=(outbits_fits N a1 a2)
  replace hT:=sIf hT;obtain⟨o1,hT⟩:=hT
  refine zA hX ?_
  refine zCond rfl rfl (fun hc => ?_) (fun hc => ?_)
  .replace hT:=sT hc hT
   refine zA hX ?_
   refine rRet (rThenRet ?_)
   have hy:=sJ hT;subst hy
   exact zEnd0 hX rfl
  .replace hT:=sF hc hT
   refine rSkip (rThen ?_)
   replace hT:=sIf hT;obtain⟨⟨o1,o2⟩,hT⟩:=hT
   refine zA hX ?_
   refine rSeq ?_
   replace hT:=sIf hT;obtain⟨o1,hT⟩:=hT
   refine zA hX ?_
   refine rBlock ?_
   replace hT:=sBind hT;obtain⟨w1,hl,hT⟩:=hT
   refine rJoinA (fun v1=>v1=w1) (fun v1=>⟨[(4,.v (.c (.str ⟨#[]⟩))),(5,.v (.c (.int .i64 0))),(6,.v (.c (.sl 0 0 v1.1 1)))],[(0,.mem true 5 (some 1) (.flat [.ints v1.2.1 .u8 v1.2.2]))],1⟩) (.exit 0) (fun v1 hv => ?_) (fun hxs10 => ?_)
   .subst hv;clear hl
    refine rInHit (rThen ?_)
    replace hT:=sIf hT;obtain⟨⟨o1,o2⟩,hT⟩:=hT
    refine zA hX ?_
    refine rRet ?_
    have hy:=sJ hT;subst hy
    exact zEnd0 hX rfl
   refine rLoopM (outbits_Row_b1 N a1) (fun s1=>⟨[(0,.v (.c (.int .i64 a1))),(4,.v (.c (.str ⟨#[]⟩))),(5,.v (.c (.int .i64 0))),(6,.v (.c (.sl 0 0 s1.1 1))),(7,.v (.c (.int .i64 s1.2.1)))],[(0,.mem true 5 (some 1) (.flat [.ints s1.2.2.1 .u8 s1.2.2.2]))],1⟩) hl (To.mk' [] 0 hε rfl zL zL) (fun s1 zs1 NNs1 hz hnexts1 houts1 => ?_)
   clear hl hT
   have hT:=hz;clear hz
   refine rSeq (zA hX ?_)
   refine zCond rfl rfl (fun hc => ?_) (fun hc => ?_)
   .replace hT:=sT hc hT
    refine rSkip (rThen (rSeq (rBlock ?_)))
    let x2:(List Int):=(s1.2.2.2++(((List.replicate 1 0).set 0 ((48:Int)+((Int.toNat (a1/2 ^ (Int.toNat s1.2.1)) &&& Int.toNat 1:Nat):Int))).take 1))
    replace hT:=sIf hT;obtain⟨⟨o1,o2,o3,o4,o5,o6,o7,o8,o9,o10⟩,hT⟩:=hT
    refine zReg md0 hX rfl rfl rfl ?_
    refine rInNormal (rThen ?_)
    replace hT:=sIf hT;obtain⟨o1,hT⟩:=hT
    refine zReg md0 hX rfl rfl rfl ?_
    exact hnexts1 _ (sJ hT).symm _ (To.mk' [2] 0 hε rfl zL zL)
   .replace hT:=sF hc hT
    refine rExit (rThenExit (rThenExit ?_))
    exact zTo [] 0 hε (hxs10 _ (houts1 _ (sJ hT).symm))
 .cases h
def tcoef_digit(N:Nat)(a1:Bool):Option ByteArray:=
 bif a1 then
  some ⟨#[49]⟩
 else
  some ⟨#[48]⟩
def sp_tcoef_digit(N:Nat):X.Spec:=fun args lk=>match args with
 | [.v (.c (.bool a1))]=>some ⟨(tcoef_digit N a1).isSome=true,.v (.c (.str ((tcoef_digit N a1).getD default))),[],[]⟩
 | _=>none
theorem ok_tcoef_digit(N:Nat):FnOK Tryz.prog gt0 127 (sp_tcoef_digit N):=by
 refine fnOK_handed Tryz.func127 rfl (by kernel_rfl) tt_ok (ktNil) ?_
 intro args lk r h hp
 unfold sp_tcoef_digit at h
 split at h
 .rename_i a1
  cases h
  obtain⟨x,hT⟩:=sX hp;clear hp
  simp only[hT,Option.getD_some]
  refine hand0 rfl rfl fun w0 M ε0 hX=>rCount fun hε => ?_
  unfold tcoef_digit at hT
  refine zA hX ?_
  refine rSeq (zA hX ?_)
  refine zCond rfl rfl (fun hc => ?_) (fun hc => ?_)
  .replace hT:=sT hc hT
   refine zA hX ?_
   refine rRet (rThenRet ?_)
   have hy:=sJ hT;subst hy
   exact zEnd0 hX rfl
  .replace hT:=sF hc hT
   refine rSkip (rThen (zA hX ?_))
   refine rRet ?_
   have hy:=sJ hT;subst hy
   exact zEnd0 hX rfl
 .cases h
def tcoef_Row(N:Nat)(a1:Bool)(a2:Int)(a3:Int):Option (ByteArray×Bool):=
 let c1:=(tcoef_Right N a1 a2 a3)
 if c1.isSome=true then
  bif(!(c1.getD default))then
   some (⟨#[]⟩,false)
  else
   let c2:=(tcoef_place N a1 a2 (max a3 (-a3)))
   if inK .i64 (-a3)/\c2.isSome=true then
    bif(decide ((0:Int)<=(c2.getD default)))then
     let c3:=(outbits_Row N (codesL.getD (c2.getD default).toNat 0) (lensL.getD (c2.getD default).toNat 0))
     if(0:Int)<=(c2.getD default)/\(c2.getD default)<102/\(c2.getD default).toNat<102/\c3.isSome=true then
      let c4:=(tcoef_digit N (decide (a3<0)))
      if c4.isSome=true/\(ByteArray.size (c3.getD default).1:Int)+ByteArray.size (c4.getD default)<=9223372036854775807 then
       some (((c3.getD default).1++(c4.getD default)),true)
      else none
     else none
    else
     let c5:=(outbits_Row N 3 7)
     if c5.isSome=true then
      let c6:=(outbits_Row N a2 6)
      if c6.isSome=true then
       let c7:=(outbits_Row N ((a3+256)%256) 8)
       if inK .i64 (a3+256)/\(0:Int)<=(a3+256)/\c7.isSome=true then
        let c8:=(tcoef_digit N a1)
        let x1:=((((c5.getD default).1++(c8.getD default))++(c6.getD default).1)++(c7.getD default).1)
        if c8.isSome=true/\(ByteArray.size (c5.getD default).1:Int)+ByteArray.size (c8.getD default)<=9223372036854775807/\(ByteArray.size ((c5.getD default).1++(c8.getD default)):Int)+ByteArray.size (c6.getD default).1<=9223372036854775807/\(ByteArray.size (((c5.getD default).1++(c8.getD default))++(c6.getD default).1):Int)+ByteArray.size (c7.getD default).1<=9223372036854775807 then
         some (x1,true)
        else none
       else none
      else none
     else none
   else none
 else none
def sp_tcoef_Row(N:Nat):X.Spec:=fun args lk=>match args with
 | [.v (.agg [.cs [.bool a1,.int .i64 a2,.int .i64 a3]])]=>some ⟨(tcoef_Row N a1 a2 a3).isSome=true,.tup [.c (.str ((tcoef_Row N a1 a2 a3).getD default).1),.c (.bool ((tcoef_Row N a1 a2 a3).getD default).2)],[],[]⟩
 | _=>none
theorem ok_tcoef_Row(N:Nat):FnOK Tryz.prog gt0 113 (sp_tcoef_Row N):=by
 refine fnOK_handed Tryz.func113 rfl (by kernel_rfl) tt_ok (ktCons (ok_tcoef_digit N) (ktCons (ok_outbits_Row N) (ktCons (ok_tcoef_place N) (ktCons (ok_tcoef_Right N) (ktNil))))) ?_
 intro args lk r h hp
 unfold sp_tcoef_Row at h
 split at h
 .rename_i a1 a2 a3
  cases h
  obtain⟨x,hT⟩:=sX hp;clear hp
  simp only[hT,Option.getD_some]
  refine hand0 rfl rfl fun w0 M ε0 hX=>rCount fun hε => ?_
  unfold tcoef_Row at hT
  refine zA hX ?_
  refine rSeq ?_
  let c1:=(tcoef_Right N a1 a2 a3)
  replace hT:=sIf hT;obtain⟨o1,hT⟩:=hT
  refine zA hX ?_
  refine zCond rfl rfl (fun hc => ?_) (fun hc => ?_)
  .replace hT:=sT hc hT
   refine zA hX ?_
   refine rRet (rThenRet ?_)
   have hy:=sJ hT;subst hy
   exact zEnd0 hX rfl
  .replace hT:=sF hc hT
   refine rSkip (rThen (rSeq ?_))
   let c2:=(tcoef_place N a1 a2 (max a3 (-a3)))
   replace hT:=sIf hT;obtain⟨⟨o1,o2⟩,hT⟩:=hT
   refine zA hX ?_
   refine zA hX ?_
   refine zCond rfl rfl (fun hc => ?_) (fun hc => ?_)
   .replace hT:=sT hc hT
    let c3:=(outbits_Row N (codesL.getD (c2.getD default).toNat 0) (lensL.getD (c2.getD default).toNat 0))
    replace hT:=sIf hT;obtain⟨⟨o1,o2,o3,o4⟩,hT⟩:=hT
    refine rSeq (zDraw md0 0 [] hX mixed rfl rfl rfl rfl rfl ?_)
    refine rThen ?_
    let c4:=(tcoef_digit N (decide (a3<0)))
    replace hT:=sIf hT;obtain⟨⟨o1,o2⟩,hT⟩:=hT
    refine zA hX ?_
    refine rRet (rThenRet ?_)
    have hy:=sJ hT;subst hy
    exact zEnd0 hX rfl
   .replace hT:=sF hc hT
    refine rSkip (rThen ?_)
    let c5:=(outbits_Row N 3 7)
    replace hT:=sIf hT;obtain⟨o1,hT⟩:=hT
    refine zA hX ?_
    let c6:=(outbits_Row N a2 6)
    replace hT:=sIf hT;obtain⟨o1,hT⟩:=hT
    refine zA hX ?_
    let c7:=(outbits_Row N ((a3+256)%256) 8)
    replace hT:=sIf hT;obtain⟨⟨o1,o2,o3⟩,hT⟩:=hT
    refine zA hX ?_
    let c8:=(tcoef_digit N a1)
    let x1:=((((c5.getD default).1++(c8.getD default))++(c6.getD default).1)++(c7.getD default).1)
    replace hT:=sIf hT;obtain⟨⟨o1,o2,o3,o4⟩,hT⟩:=hT
    refine zA hX ?_
    refine rRet ?_
    have hy:=sJ hT;subst hy
    exact zEnd0 hX rfl
 .cases h
def outbits_plain_b1(N:Nat)(a1:ByteArray)(s1:Nat):Option (Nat⊕(Unit⊕Unit)):=
 if(ByteArray.size a1:Int)<=9223372036854775807 then
  bif(decide (s1<ByteArray.size a1))then
   let x1:=(bif(decide (((Utf8.decode a1 s1).1:Int)≠48))then(decide (((Utf8.decode a1 s1).1:Int)≠49))else false)
   bif x1 then
    some (.inr (Sum.inl ()))
   else
    some (.inl (s1+(Utf8.decode a1 s1).2))
  else
   some (.inr (Sum.inr ()))
 else none
def outbits_plain(N:Nat)(a1:ByteArray):Option Bool:=
 (iter (outbits_plain_b1 N a1) N 0).bind fun w1=>
  (Sum.elim (fun v1=>
   some false
  )
   (fun v2=>
    some true
   )
  ) w1
def sp_outbits_plain(N:Nat):X.Spec:=fun args lk=>match args with
 | [.v (.c (.str a1))]=>some ⟨(outbits_plain N a1).isSome=true,.v (.c (.bool ((outbits_plain N a1).getD default))),[],[]⟩
 | _=>none
theorem ok_outbits_plain(N:Nat):FnOK Tryz.prog gt0 128 (sp_outbits_plain N):=by
 refine fnOK_handed Tryz.func128 rfl (by kernel_rfl) tt_ok (ktNil) ?_
 intro args lk r h hp
 unfold sp_outbits_plain at h
 split at h
 .rename_i a1
  cases h
  obtain⟨x,hT⟩:=sX hp;clear hp
  simp only[hT,Option.getD_some]
  refine hand0 rfl rfl fun w0 M ε0 hX=>rCount fun hε => ?_
  unfold outbits_plain at hT
  refine zA hX ?_
  refine rSeq (zA hX ?_)
  refine rBlock ?_
  replace hT:=sBind hT;obtain⟨w1,hl,hT⟩:=hT
  refine rJoinA (fun v1=>(Sum.inl v1)=w1) (fun v1=>⟨[(2,.v (.c (.bool false)))],[],1⟩) .ret (fun v1 hv => ?_) (fun hxs10 => ?_)
  .subst hv;clear hl;replace hT:=(sElimL hT)
   refine rInRet (rThenRet ?_)
   have hy:=sJ hT;subst hy
   exact zEnd0 hX rfl
  refine rJoinA (fun v2=>(Sum.inr v2)=w1) (fun v2=>⟨[(2,.v (.c (.bool false)))],[],1⟩) (.exit 0) (fun v2 hv => ?_) (fun hxs11 => ?_)
  .subst hv;clear hl;replace hT:=(sElimR hT)
   refine rInHit (rThen (zA hX ?_))
   refine rRet ?_
   have hy:=sJ hT;subst hy
   exact zEnd0 hX rfl
  refine rLoopM (outbits_plain_b1 N a1) (fun s1=>⟨[(2,.v (.c (.bool false))),(6,.v (.c (.ptr 0 0 0 0 0 0)))],[(0,.iter a1 s1)],1⟩) hl (To.mk' [] 0 hε rfl zL zL) (fun s1 zs1 NNs1 hz hnexts1 houts1 => ?_)
  clear hl hT
  have hT:=hz;clear hz
  refine rSeq (rRegSL ?_)
  replace hT:=sIf hT;obtain⟨o1,hT⟩:=hT
  refine rSLNext rfl rfl rfl rfl rfl rfl zZ rfl o1 rfl rfl (fun hb => ?_) (fun hb => ?_)
  .replace hT:=sT (decide_eq_true hb) hT
   refine rSLDone md0 hX rfl rfl rfl zP ?_
   refine rThen (rSeq (rCondT rfl rfl zP rfl ?_))
   refine rSkip (rThen (rBlock (zA hX ?_)))
   let x1:=(bif(decide (((Utf8.decode a1 s1).1:Int)≠48))then(decide (((Utf8.decode a1 s1).1:Int)≠49))else false)
   refine zA hX ?_
   refine zCond rfl rfl (fun hc => ?_) (fun hc => ?_)
   .replace hT:=sT hc hT
    refine zA hX ?_
    refine rRet (rInRet (rThenRet ?_))
    exact zTo [] 0 hε (hxs10 _ (houts1 _ (sJ hT).symm))
   .replace hT:=sF hc hT
    refine rSkip (rInNormal ?_)
    exact hnexts1 _ (sJ hT).symm _ (To.mk' [] 0 hε rfl zL zL)
  .replace hT:=sF (decide_eq_false hb) hT
   refine rSLDone md0 hX rfl rfl rfl zP ?_
   refine rThen (rSeq (rCondF rfl rfl zP rfl ?_))
   refine rExit (rThenExit (rThenExit ?_))
   exact zTo [] 0 hε (hxs11 _ (houts1 _ (sJ hT).symm))
 .cases h
def overspill_outbits_Writer_Add_b1(N:Nat)(a1:ByteArray) (s1:((List Bool)×Nat)):Option (((List Bool)×Nat)⊕(List Bool)):=
 if(ByteArray.size a1:Int)<=9223372036854775807 then
  bif(decide (s1.2<ByteArray.size a1))then
   let c2:=(overspill_outbits_Writer_bit N (decide (((Utf8.decode a1 s1.2).1:Int)=49)) s1.1)
   if c2.isSome=true then
    some (.inl ((c2.getD default),(s1.2+(Utf8.decode a1 s1.2).2)))
   else none
  else
   some (.inr s1.1)
 else none
def overspill_outbits_Writer_Add(N:Nat)(a1:ByteArray)(a2:(List Bool)):Option (Int×(List Bool)):=
 let c1:=(outbits_plain N a1)
 if((!false)=true->c1.isSome=true)then
  bif(!(c1.getD default))then
   some (1,a2)
  else
   (iter (overspill_outbits_Writer_Add_b1 N a1) N (a2,0)).bind fun v1=>
    some (0,v1)
 else none
def sp_overspill_outbits_Writer_Add(N:Nat):X.Spec:=fun args lk=>match args with
 | [.v (.c (.ptr i0 0 0 0 0 0)),.v (.c (.str a1))]=>(match lk i0 with
  | some (.obj 5 a2)=>some ⟨(overspill_outbits_Writer_Add N a1 a2).isSome=true,.v (.c (.int .i64 ((overspill_outbits_Writer_Add N a1 a2).getD default).1)),[],[(i0,.obj 5 ((overspill_outbits_Writer_Add N a1 a2).getD default).2)]⟩
  | _=>none)
 | _=>none
theorem ok_overspill_outbits_Writer_Add(N:Nat):FnOK Tryz.prog gt0 114 (sp_overspill_outbits_Writer_Add N):=by
 refine fnOK_handed Tryz.func114 rfl (by kernel_rfl) tt_ok (ktCons (ok_overspill_outbits_Writer_bit N) (ktCons (ok_outbits_plain N) (ktNil))) ?_
 intro args lk r h hp
 unfold sp_overspill_outbits_Writer_Add at h
 split at h
 .rename_i i0 a1
  split at h
  .rename_i a2 hl0
   cases h
   obtain⟨x,hT⟩:=sX hp;clear hp
   simp only[hT,Option.getD_some]
   refine handL [i0] 1 [(0,.obj 5 a2)] [.v (.c (.ptr 0 0 0 0 0 0)),.v (.c (.str a1))] rfl rfl rfl ⟨isSome_of hl0,trivial⟩ ⟨⟨rfl,zT,_,hl0,.inl rfl⟩,trivial⟩ rfl (fun w0 M ε0 hX => ?_)
   refine rCount (fun hε => ?_)
   unfold overspill_outbits_Writer_Add at hT
   refine zA hX ?_
   refine rSeq ?_
   let c1:=(outbits_plain N a1)
   replace hT:=sIf hT;obtain⟨o1,hT⟩:=hT
   refine rSeq (rRegC md0 hX rfl rfl rfl zO ?_)
   refine rThen ?_
   refine zCond rfl rfl (fun hc => ?_) (fun hc => ?_)
   .replace hT:=sT hc hT
    refine zA hX ?_
    refine rRet (rThenRet ?_)
    have hy:=sJ hT;subst hy
    exact rEndA [] [] [(0,.obj 5 a2)] (.v (.c (.int .i64 1))) hX rfl zZ zL rfl rfl rfl zT rfl rfl zT rfl rfl
   .replace hT:=sF hc hT
    refine rSkip (rThen (rSeq (zA hX ?_)))
    refine rBlock ?_
    replace hT:=sBind hT;obtain⟨w1,hl,hT⟩:=hT
    refine rJoinA (fun v1=>v1=w1) (fun v1=>⟨[(4,.v (.c (.int .i64 0)))],[(0,.obj 5 v1)],2⟩) (.exit 0) (fun v1 hv => ?_) (fun hxs10 => ?_)
    .subst hv;clear hl
     refine rInHit (rThen (zA hX ?_))
     refine rRet ?_
     have hy:=sJ hT;subst hy
     exact rEndA [] [] [(0,.obj 5 v1)] (.v (.c (.int .i64 0))) hX rfl zZ zL rfl rfl rfl zT rfl rfl zT rfl rfl
    refine rLoopM (overspill_outbits_Writer_Add_b1 N a1) (fun s1=>⟨[(0,.v (.c (.ptr 0 0 0 0 0 0))),(4,.v (.c (.int .i64 0))),(15,.v (.c (.ptr 1 0 0 0 0 0)))],[(0,.obj 5 s1.1),(1,.iter a1 s1.2)],2⟩) hl (To.mk' [] 1 hε rfl zL zL) (fun s1 zs1 NNs1 hz hnexts1 houts1 => ?_)
    clear hl hT
    have hT:=hz;clear hz
    refine rSeq (rRegSL ?_)
    replace hT:=sIf hT;obtain⟨o1,hT⟩:=hT
    refine rSLNext rfl rfl rfl rfl rfl rfl zZ rfl o1 rfl rfl (fun hb => ?_) (fun hb => ?_)
    .replace hT:=sT (decide_eq_true hb) hT
     refine rSLDone md0 hX rfl rfl rfl zP ?_
     refine rThen (rSeq (rCondT rfl rfl zP rfl ?_))
     refine rSkip (rThen (rBlock (zA hX ?_)))
     let c2:=(overspill_outbits_Writer_bit N (decide (((Utf8.decode a1 s1.2).1:Int)=49)) s1.1)
     replace hT:=sIf hT;obtain⟨o1,hT⟩:=hT
     refine zReg md0 hX rfl rfl rfl ?_
     refine rInNormal ?_
     exact hnexts1 _ (sJ hT).symm _ (To.mk' [] 1 hε rfl zL zL)
    .replace hT:=sF (decide_eq_false hb) hT
     refine rSLDone md0 hX rfl rfl rfl zP ?_
     refine rThen (rSeq (rCondF rfl rfl zP rfl ?_))
     refine rExit (rThenExit (rThenExit ?_))
     exact zTo [] 1 hε (hxs10 _ (houts1 _ (sJ hT).symm))
  .cases h
 .cases h
def blocks_Put_b1(N:Nat)(a3:Zt3) (s1:(Int×(List Bool))):Option ((Int×(List Bool))⊕(List Bool)):=
 bif(decide (s1.1<(a3.length:Int)))then
  if(0:Int)<=s1.1/\s1.1<(a3.length:Int)then
   let c3:=(tcoef_Row N (a3.getD (s1.1).toNat Zd1).1 (a3.getD (s1.1).toNat Zd1).2.1 (a3.getD (s1.1).toNat Zd1).2.2)
   if c3.isSome=true then
    let c4:=(overspill_outbits_Writer_Add N (c3.getD default).1 s1.2)
    if c4.isSome=true then
     if inK .i64 (s1.1+1)then
      some (.inl ((s1.1+1),(c4.getD default).2))
     else none
    else none
   else none
  else none
 else
  some (.inr s1.2)
def blocks_Put(N:Nat)(a1:Bool)(a2:Int)(a3:Zt3)(a4:(List Bool)):Option (Int×(List Bool)):=
 let c1:=(blocks_may N a1 a2 a3)
 if c1.isSome=true then
  bif(!(c1.getD default))then
   some (7,a4)
  else
   let c2:=(overspill_outbits_Writer_Put N (bif(decide (a2=128))then 255 else a2) 8 a4)
   if(a1=true->c2.isSome=true)then
    (iter (blocks_Put_b1 N a3) N (0,(bif a1 then(c2.getD default).2 else a4))).bind fun v1=>
     some (0,v1)
   else none
 else none
def sp_blocks_Put(N:Nat):X.Spec:=fun args lk=>match args with
 | [.v (.c (.ptr i0 0 0 0 0 0)),.v (.c (.bool a1)),.v (.c (.int .i64 a2)),.v (.c (.fz (.pair .bool (.pair (.int .i64) (.int .i64))) a3))]=>(match lk i0 with
  | some (.obj 5 a4)=>some ⟨(blocks_Put N a1 a2 a3 a4).isSome=true,.v (.c (.int .i64 ((blocks_Put N a1 a2 a3 a4).getD default).1)),[],[(i0,.obj 5 ((blocks_Put N a1 a2 a3 a4).getD default).2)]⟩
  | _=>none)
 | _=>none
theorem ok_blocks_Put(N:Nat):FnOK Tryz.prog gt0 80 (sp_blocks_Put N):=by
 refine fnOK_handed Tryz.func80 rfl (by kernel_rfl) tt_ok (ktCons (ok_overspill_outbits_Writer_Add N) (ktCons (ok_tcoef_Row N) (ktCons (ok_overspill_outbits_Writer_Put N) (ktCons (ok_blocks_may N) (ktNil))))) ?_
 intro args lk r h hp
 unfold sp_blocks_Put at h
 split at h
 .rename_i i0 a1 a2 a3
  split at h
  .rename_i a4 hl0
   change Zt3 at a3
   cases h
   obtain⟨x,hT⟩:=sX hp;clear hp
   simp only[hT,Option.getD_some]
   refine handL [i0] 1 [(0,.obj 5 a4)] [.v (.c (.ptr 0 0 0 0 0 0)),.v (.c (.bool a1)),.v (.c (.int .i64 a2)),.v (.c (.fz Zs1 a3))] rfl rfl rfl ⟨isSome_of hl0,trivial⟩ ⟨⟨rfl,zT,_,hl0,.inl rfl⟩,trivial⟩ rfl (fun w0 M ε0 hX => ?_)
   refine rCount (fun hε => ?_)
   unfold blocks_Put at hT
   refine zA hX ?_
   refine rSeq (rBlock (zA hX ?_))
   refine rCondF rfl rfl zP rfl ?_
   let c1:=(blocks_may N a1 a2 a3)
   replace hT:=sIf hT;obtain⟨o1,hT⟩:=hT
   refine zA hX ?_
   refine zCond rfl rfl (fun hc => ?_) (fun hc => ?_)
   .replace hT:=sT hc hT
    refine zA hX ?_
    refine rRet (rInRet (rThenRet ?_))
    have hy:=sJ hT;subst hy
    exact rEndA [] [] [(0,.obj 5 a4)] (.v (.c (.int .i64 7))) hX rfl zZ zL rfl rfl rfl zT rfl rfl zT rfl rfl
   .replace hT:=sF hc hT
    refine rSkip (rInNormal (rThen (rSeq (zA hX ?_))))
    refine rJoin ⟨[(0,.v (.c (.ptr 0 0 0 0 0 0))),(1,.v (.c (.bool a1))),(2,.v (.c (.int .i64 (bif(decide (a2=128))then 255 else a2)))),(3,.v (.c (.fz Zs1 a3))),(8,.v (.c (.int .i64 0)))],[(0,.obj 5 a4)],1⟩ ?_ (fun hj => ?_)
    .refine rThen (rSeq (zA hX ?_))
     let c2:=(overspill_outbits_Writer_Put N (bif(decide (a2=128))then 255 else a2) 8 a4)
     replace hT:=sIf hT;obtain⟨q1,hT⟩:=hT
     refine rJoin ⟨[(0,.v (.c (.ptr 0 0 0 0 0 0))),(3,.v (.c (.fz Zs1 a3))),(8,.v (.c (.int .i64 0)))],[(0,.obj 5 (bif a1 then(c2.getD default).2 else a4))],1⟩ ?_ (fun hj => ?_)
     .refine rThen (rSeq (zA hX ?_))
      refine rBlock ?_
      replace hT:=sBind hT;obtain⟨w1,hl,hT⟩:=hT
      refine rJoinA (fun v1=>v1=w1) (fun v1=>⟨[(8,.v (.c (.int .i64 0)))],[(0,.obj 5 v1)],1⟩) (.exit 1) (fun v1 hv => ?_) (fun hxs10 => ?_)
      .subst hv;clear hl
       refine rInHit (rThen (zA hX ?_))
       refine rRet ?_
       have hy:=sJ hT;subst hy
       exact rEndA [] [] [(0,.obj 5 v1)] (.v (.c (.int .i64 0))) hX rfl zZ zL rfl rfl rfl zT rfl rfl zT rfl rfl
      refine rLoopM (blocks_Put_b1 N a3) (fun s1=>⟨[(0,.v (.c (.ptr 0 0 0 0 0 0))),(8,.v (.c (.int .i64 0))),(28,.v (.c (.fz Zs1 a3))),(29,.v (.c (.int .i64 (a3.length:Int)))),(30,.v (.c (.int .i64 s1.1)))],[(0,.obj 5 s1.2)],1⟩) hl (To.mk' [] 1 hε rfl zL zL) (fun s1 zs1 NNs1 hz hnexts1 houts1 => ?_)
      clear hl hT
      have hT:=hz;clear hz
      refine zA hX ?_
      refine rSeq ?_
      refine zCond rfl rfl (fun hc => ?_) (fun hc => ?_)
      .replace hT:=sT hc hT
       refine rSkip (rThen (rSeq (rBlock ?_)))
       replace hT:=sIf hT;obtain⟨⟨o1,o2⟩,hT⟩:=hT
       refine zA hX ?_
       let c3:=(tcoef_Row N (a3.getD (s1.1).toNat Zd1).1 (a3.getD (s1.1).toNat Zd1).2.1 (a3.getD (s1.1).toNat Zd1).2.2)
       replace hT:=sIf hT;obtain⟨o1,hT⟩:=hT
       refine zA hX ?_
       let c4:=(overspill_outbits_Writer_Add N (c3.getD default).1 s1.2)
       replace hT:=sIf hT;obtain⟨o1,hT⟩:=hT
       refine zReg md0 hX rfl rfl rfl ?_
       refine rInNormal (rThen ?_)
       replace hT:=sIf hT;obtain⟨o1,hT⟩:=hT
       refine zReg md0 hX rfl rfl rfl ?_
       exact hnexts1 _ (sJ hT).symm _ (To.mk' [] 1 hε rfl zL zL)
      .replace hT:=sF hc hT
       refine rExit (rThenExit (rThenExit ?_))
       exact zTo [] 1 hε (hxs10 _ (houts1 _ (sJ hT).symm))
     .clear hT
      refine zCond rfl rfl (fun hc => ?_) (fun hc => ?_)
      .have q1:=q1 hc
       refine zReg md0 hX rfl rfl rfl ?_
       exact rTo (To.mk' [] 1 hε rfl zJ zJ) hj
      .refine rSkip ?_
       exact rTo (To.mk' [] 1 hε rfl zJ zJ) hj
    .clear hT
     refine zCond rfl rfl (fun hc => ?_) (fun hc => ?_)
     .refine zReg md0 hX rfl rfl rfl ?_
      exact rTo (To.mk' [] 1 hε rfl zJ zJ) hj
     .refine rSkip ?_
      exact rTo (To.mk' [] 1 hε rfl zJ zJ) hj
  .cases h
 .cases h
def cellout_Right_b1(N:Nat)(a4:Int)(a7:(List Int))(a8:Zt1)(s1:Int):Option (Int⊕(Unit⊕Unit)):=
 bif(decide (s1<6))then
  let c6:=(outbits_New N)
  let c7:=(cellout_intra N a4)
  let c8:=(blocks_Put N (c7.getD default) (a7.getD (s1).toNat 0) (a8.getD (s1).toNat []) (c6.getD default))
  if c6.isSome=true/\c7.isSome=true/\(0:Int)<=s1/\s1<6/\(s1).toNat<6/\c8.isSome=true then
   bif(decide ((c8.getD default).1≠0))then
    some (.inr (Sum.inl ()))
   else
    if inK .i64 (s1+1)then
     some (.inl (s1+1))
    else none
  else none
 else
  some (.inr (Sum.inr ()))
def cellout_Right(N:Nat)(a1:Bool)(a2:Int)(a3:Bool)(a4:Int)(a5:Int)(a6:(List Int))(a7:(List Int))(a8:Zt1):Option Bool:=
 bif(bif(decide (a2<0))then true else(decide ((64:Int)<a2)))then
  some false
 else
  bif a3 then
   let c1:=(cellout_bare N a2 a3 a4 a5 a6 a7 a8)
   if(a1=true->c1.isSome=true)then
    some (bif a1 then(c1.getD default)else false)
   else none
  else
   let c2:=(cellout_intra N a4)
   let x1:=(bif(!(c2.getD default))then(bif(!a1)then true else(bif(decide (a4≠0))then(decide (a4≠1))else false))else false)
   if c2.isSome=true/\(((!(c2.getD default))&&(!(!a1)))=true->((decide (a4≠0))=true->(((!(c2.getD default))&&(!(!a1)))&&(decide (a4≠0)))=true))/\((!(c2.getD default))=true->((!a1)=false->((!(c2.getD default))&&(!(!a1)))=true))then
    bif x1 then
     some false
    else
     let c3:=(steps_Row N a5)
     if c3.isSome=true then
      let c4:=(cellout_stepped N a4)
      let c5:=(cellout_vector N a2 a3 a4 a5 a6 a7 a8)
      let x4:=(bif(bif(!((c3.getD default).2==(c4.getD default)))then true else(bif(!(c3.getD default).2)then(decide (a5≠0))else false))then true else(!(c5.getD default)))
      if c4.isSome=true/\((!(!((c3.getD default).2==(c4.getD default))))=true->((!(c3.getD default).2)=true->((!(!((c3.getD default).2==(c4.getD default))))&&(!(c3.getD default).2))=true))/\((!(bif(!((c3.getD default).2==(c4.getD default)))then true else(bif(!(c3.getD default).2)then(decide (a5≠0))else false)))=true->c5.isSome=true)then
       bif x4 then
        some false
       else
        (iter (cellout_Right_b1 N a4 a7 a8) N 0).bind fun w1=>
         (Sum.elim (fun v1=>
          some false
         )
          (fun v2=>
           some true
          )
         ) w1
      else none
     else none
   else none
def sp_cellout_Right(N:Nat):X.Spec:=fun args lk=>match args with
 | [.v (.c (.bool a1)),.v (.agg [.cs [.int .i64 a2,.bool a3,.int .i64 a4,.int .i64 a5],.ints 2 .i64 a6,.ints 6 .i64 a7,.fzs 6 (.pair .bool (.pair (.int .i64) (.int .i64))) a8])]=>some ⟨(cellout_Right N a1 a2 a3 a4 a5 a6 a7 a8).isSome=true,.v (.c (.bool ((cellout_Right N a1 a2 a3 a4 a5 a6 a7 a8).getD default))),[],[]⟩
 | _=>none
theorem ok_cellout_Right(N:Nat):FnOK Tryz.prog gt0 46 (sp_cellout_Right N):=by
 refine fnOK_handed Tryz.func46 rfl (by kernel_rfl) tt_ok (ktCons (ok_blocks_Put N) (ktCons (ok_outbits_New N) (ktCons (ok_cellout_vector N) (ktCons (ok_cellout_stepped N) (ktCons (ok_steps_Row N) (ktCons (ok_cellout_intra N) (ktCons (ok_cellout_bare N) (ktNil)))))))) ?_
 intro args lk r h hp
 unfold sp_cellout_Right at h
 split at h
 .rename_i a1 a2 a3 a4 a5 a6 a7 a8
  change (List Int)at a6
  change (List Int)at a7
  change Zt1 at a8
  cases h
  obtain⟨x,hT⟩:=sX hp;clear hp
  simp only[hT,Option.getD_some]
  refine hand0 rfl rfl fun w0 M ε0 hX=>rCount fun hε => ?_
  unfold cellout_Right at hT
  refine zA hX ?_
  refine rSeq (zA hX ?_)
  refine zCond rfl rfl (fun hc => ?_) (fun hc => ?_)
  .replace hT:=sT hc hT
   refine zA hX ?_
   refine rRet (rThenRet ?_)
   have hy:=sJ hT;subst hy
   exact zEnd0 hX rfl
  .replace hT:=sF hc hT
   refine rSkip (rThen (rSeq (zA hX ?_)))
   refine zCond rfl rfl (fun hc => ?_) (fun hc => ?_)
   .replace hT:=sT hc hT
    let c1:=(cellout_bare N a2 a3 a4 a5 a6 a7 a8)
    replace hT:=sIf hT;obtain⟨o1,hT⟩:=hT
    refine rSeq (rRegC md0 hX rfl rfl rfl zO ?_)
    refine rThen (rRet (rThenRet ?_))
    have hy:=sJ hT;subst hy
    exact zEnd0 hX rfl
   .replace hT:=sF hc hT
    refine rSkip (rThen (rSeq ?_))
    let c2:=(cellout_intra N a4)
    let x1:=(bif(!(c2.getD default))then(bif(!a1)then true else(bif(decide (a4≠0))then(decide (a4≠1))else false))else false)
    replace hT:=sIf hT;obtain⟨⟨o1,o2,o3⟩,hT⟩:=hT
    refine rSeq (rRegC md0 hX rfl rfl rfl zO ?_)
    refine rThen ?_
    refine zCond rfl rfl (fun hc => ?_) (fun hc => ?_)
    .replace hT:=sT hc hT
     refine zA hX ?_
     refine rRet (rThenRet ?_)
     have hy:=sJ hT;subst hy
     exact zEnd0 hX rfl
    .replace hT:=sF hc hT
     refine rSkip (rThen (rSeq ?_))
     let c3:=(steps_Row N a5)
     replace hT:=sIf hT;obtain⟨o1,hT⟩:=hT
     refine zA hX ?_
     let c4:=(cellout_stepped N a4)
     let c5:=(cellout_vector N a2 a3 a4 a5 a6 a7 a8)
     let x4:=(bif(bif(!((c3.getD default).2==(c4.getD default)))then true else(bif(!(c3.getD default).2)then(decide (a5≠0))else false))then true else(!(c5.getD default)))
     replace hT:=sIf hT;obtain⟨⟨o1,o2,o3⟩,hT⟩:=hT
     refine rSeq (rRegC md0 hX rfl rfl rfl zO ?_)
     refine rThen ?_
     refine zCond rfl rfl (fun hc => ?_) (fun hc => ?_)
     .replace hT:=sT hc hT
      refine zA hX ?_
      refine rRet (rThenRet ?_)
      have hy:=sJ hT;subst hy
      exact zEnd0 hX rfl
     .replace hT:=sF hc hT
      refine rSkip (rThen (rSeq (zA hX ?_)))
      refine rBlock ?_
      replace hT:=sBind hT;obtain⟨w1,hl,hT⟩:=hT
      refine rJoinA (fun v1=>(Sum.inl v1)=w1) (fun v1=>⟨[(4,.v (.c (.bool false)))],[],1⟩) .ret (fun v1 hv => ?_) (fun hxs10 => ?_)
      .subst hv;clear hl;replace hT:=(sElimL hT)
       refine rInRet (rThenRet ?_)
       have hy:=sJ hT;subst hy
       exact zEnd0 hX rfl
      refine rJoinA (fun v2=>(Sum.inr v2)=w1) (fun v2=>⟨[(4,.v (.c (.bool false)))],[],1⟩) (.exit 0) (fun v2 hv => ?_) (fun hxs11 => ?_)
      .subst hv;clear hl;replace hT:=(sElimR hT)
       refine rInHit (rThen (zA hX ?_))
       refine rRet ?_
       have hy:=sJ hT;subst hy
       exact zEnd0 hX rfl
      refine rLoopM (cellout_Right_b1 N a4 a7 a8) (fun s1=>⟨[(3,.v (.c (.ptr 0 0 0 0 0 0))),(4,.v (.c (.bool false))),(66,.v (.c (.int .i64 s1)))],[(0,.mem true 35 none (.flat [.cs [.int .i64 a2,.bool a3,.int .i64 a4,.int .i64 a5],.ints 2 .i64 a6,.ints 6 .i64 a7,.fzs 6 Zs1 a8]))],1⟩) hl (To.mk' [] 0 hε rfl zL zL) (fun s1 zs1 NNs1 hz hnexts1 houts1 => ?_)
      clear hl hT
      have hT:=hz;clear hz
      refine zA hX ?_
      refine rSeq ?_
      refine zCond rfl rfl (fun hc => ?_) (fun hc => ?_)
      .replace hT:=sT hc hT
       refine rSkip (rThen (rSeq (rBlock (zA hX ?_))))
       let c6:=(outbits_New N)
       let c7:=(cellout_intra N a4)
       let c8:=(blocks_Put N (c7.getD default) (a7.getD (s1).toNat 0) (a8.getD (s1).toNat []) (c6.getD default))
       replace hT:=sIf hT;obtain⟨⟨o1,o2,o3,o4,o5,o6⟩,hT⟩:=hT
       refine rSeq (rDrawA md0 0 0 12 [] hX mixed rfl rfl rfl rfl rfl rfl rfl rfl rfl rfl rfl rfl rfl rfl rfl zL rfl rfl zP ?_)
       refine rThen ?_
       refine zCond rfl rfl (fun hc => ?_) (fun hc => ?_)
       .replace hT:=sT hc hT
        refine zA hX ?_
        refine rRet (rInRet (rThenRet (rThenRet ?_)))
        exact zTo [] 0 hε (hxs10 _ (houts1 _ (sJ hT).symm))
       .replace hT:=sF hc hT
        refine rSkip (rInNormal (rThen ?_))
        replace hT:=sIf hT;obtain⟨o1,hT⟩:=hT
        refine zReg md0 hX rfl rfl rfl ?_
        exact hnexts1 _ (sJ hT).symm _ (To.mk' [] 0 hε rfl zL zL)
      .replace hT:=sF hc hT
       refine rExit (rThenExit (rThenExit ?_))
       exact zTo [] 0 hε (hxs11 _ (houts1 _ (sJ hT).symm))
 .cases h
def overspill_residue_cell_intra(N:Nat)(a1:Int)(a2:Bool)(a3:Int)(a4:Int)(a5:(List Int))(a6:(List Int))(a7:Zt1)(a8:Int):Option Bool:=
 some (bif(decide (a3=3))then true else(decide (a3=4)))
def sp_overspill_residue_cell_intra(N:Nat):X.Spec:=fun args lk=>match args with
 | [.v (.agg [.cs [.int .i64 a1,.bool a2,.int .i64 a3,.int .i64 a4],.ints 2 .i64 a5,.ints 6 .i64 a6,.fzs 6 (.pair .bool (.pair (.int .i64) (.int .i64))) a7,.cs [.int .i64 a8]])]=>some ⟨(overspill_residue_cell_intra N a1 a2 a3 a4 a5 a6 a7 a8).isSome=true,.v (.c (.bool ((overspill_residue_cell_intra N a1 a2 a3 a4 a5 a6 a7 a8).getD default))),[],[]⟩
 | _=>none
theorem ok_overspill_residue_cell_intra(N:Nat):FnOK Tryz.prog gt0 63 (sp_overspill_residue_cell_intra N):=by
 refine fnOK_handed Tryz.func63 rfl (by kernel_rfl) tt_ok (ktNil) ?_
 intro args lk r h hp
 unfold sp_overspill_residue_cell_intra at h
 split at h
 .rename_i a1 a2 a3 a4 a5 a6 a7 a8
  change (List Int)at a5
  change (List Int)at a6
  change Zt1 at a7
  cases h
  obtain⟨x,hT⟩:=sX hp;clear hp
  simp only[hT,Option.getD_some]
  refine hand0 rfl rfl fun w0 M ε0 hX=>rCount fun hε => ?_
  unfold overspill_residue_cell_intra at hT
  refine zA hX ?_
  refine zA hX ?_
  refine rRet ?_
  have hy:=sJ hT;subst hy
  exact zEnd0 hX rfl
 .cases h
def scan_Raster_b1(N:Nat)(a1:(List Int)) (s1:(Int×(List Int))):Option ((Int×(List Int))⊕(List Int)):=
 bif(decide (s1.1<64))then
  if(0:Int)<=s1.1/\s1.1<64/\(s1.1).toNat<64/\(0:Int)<=(placesL.getD (s1.1).toNat 0)/\(placesL.getD (s1.1).toNat 0)<64/\(placesL.getD (s1.1).toNat 0).toNat<64 then
   if inK .i64 (s1.1+1)then
    some (.inl ((s1.1+1),(s1.2.set (placesL.getD (s1.1).toNat 0).toNat (a1.getD (s1.1).toNat 0))))
   else none
  else none
 else
  some (.inr s1.2)
def scan_Raster(N:Nat)(a1:(List Int)):Option (List Int):=
 (iter (scan_Raster_b1 N a1) N (0,(List.replicate 64 0))).bind fun v1=>
  some v1
def sp_scan_Raster(N:Nat):X.Spec:=fun args lk=>match args with
 | [.v (.agg [.ints 64 .i64 a1])]=>some ⟨(scan_Raster N a1).isSome=true,.v (.agg [.ints 64 .i64 ((scan_Raster N a1).getD default)]),[],[]⟩
 | _=>none
theorem ok_scan_Raster(N:Nat):FnOK Tryz.prog gt0 65 (sp_scan_Raster N):=by
 refine fnOK_handed Tryz.func65 rfl (by kernel_rfl) tt_ok (ktNil) ?_
 intro args lk r h hp
 unfold sp_scan_Raster at h
 split at h
 .rename_i a1
  change (List Int)at a1
  cases h
  obtain⟨x,hT⟩:=sX hp;clear hp
  simp only[hT,Option.getD_some]
  refine hand0 rfl rfl fun w0 M ε0 hX=>rCount fun hε => ?_
  unfold scan_Raster at hT
  refine zA hX ?_
  refine zA hX ?_
  refine rSeq (zA hX ?_)
  refine rBlock ?_
  replace hT:=sBind hT;obtain⟨w1,hl,hT⟩:=hT
  refine rJoinA (fun v1=>v1=w1) (fun v1=>⟨[(2,.v (.c (.ptr 1 0 0 0 0 0))),(3,.v (.c (.ptr 2 0 0 0 0 0)))],[(1,.mem true 62 none (.flat [.ints 64 .i64 (List.replicate 64 0)])),(2,.mem true 62 none (.flat [.ints 64 .i64 v1]))],3⟩) (.exit 0) (fun v1 hv => ?_) (fun hxs10 => ?_)
  .subst hv;clear hl
   refine rInHit (rThen (zA hX ?_))
   refine rRet ?_
   have hy:=sJ hT;subst hy
   exact zEnd0 hX rfl
  refine rLoopM (scan_Raster_b1 N a1) (fun s1=>⟨[(1,.v (.c (.ptr 0 0 0 0 0 0))),(2,.v (.c (.ptr 1 0 0 0 0 0))),(3,.v (.c (.ptr 2 0 0 0 0 0))),(5,.v (.c (.int .i64 s1.1)))],[(0,.mem true 62 none (.flat [.ints 64 .i64 a1])),(1,.mem true 62 none (.flat [.ints 64 .i64 (List.replicate 64 0)])),(2,.mem true 62 none (.flat [.ints 64 .i64 s1.2]))],3⟩) hl (To.mk' [] 0 hε rfl zL zL) (fun s1 zs1 NNs1 hz hnexts1 houts1 => ?_)
  clear hl hT
  have hT:=hz;clear hz
  refine zA hX ?_
  refine rSeq ?_
  refine zCond rfl rfl (fun hc => ?_) (fun hc => ?_)
  .replace hT:=sT hc hT
   refine rSkip (rThen (rSeq (rBlock (zA hX ?_))))
   replace hT:=sIf hT;obtain⟨⟨o1,o2,o3,o4,o5,o6⟩,hT⟩:=hT
   refine zDraw md0 1 [7] hX mixed rfl rfl rfl rfl rfl ?_
   refine rInNormal (rThen ?_)
   replace hT:=sIf hT;obtain⟨o1,hT⟩:=hT
   refine zReg md0 hX rfl rfl rfl ?_
   exact hnexts1 _ (sJ hT).symm _ (To.mk' [] 0 hε rfl zL zL)
  .replace hT:=sF hc hT
   refine rExit (rThenExit (rThenExit ?_))
   exact zTo [] 0 hε (hxs10 _ (houts1 _ (sJ hT).symm))
 .cases h
def overspill_residue_cell_levels(N:Nat)(a1:Int)(a2:Bool)(a3:Int)(a4:Int)(a5:(List Int))(a6:(List Int))(a7:Zt1)(a8:Int)(a9:Int):Option (List Int):=
 let c1:=(overspill_residue_cell_intra N a1 a2 a3 a4 a5 a6 a7 a8)
 if c1.isSome=true then
  let c2:=(runs_Levels N (a7.getD (a9).toNat []) (bif(c1.getD default)then(1:Int)else 0))
  if(0:Int)<=a9/\a9<6/\(a9).toNat<6/\c2.isSome=true then
   let c3:=(scan_Raster N (c2.getD default).1)
   if c3.isSome=true then
    some (c3.getD default)
   else none
  else none
 else none
def sp_overspill_residue_cell_levels(N:Nat):X.Spec:=fun args lk=>match args with
 | [.v (.agg [.cs [.int .i64 a1,.bool a2,.int .i64 a3,.int .i64 a4],.ints 2 .i64 a5,.ints 6 .i64 a6,.fzs 6 (.pair .bool (.pair (.int .i64) (.int .i64))) a7,.cs [.int .i64 a8]]),.v (.c (.int .i64 a9))]=>some ⟨(overspill_residue_cell_levels N a1 a2 a3 a4 a5 a6 a7 a8 a9).isSome=true,.v (.agg [.ints 64 .i64 ((overspill_residue_cell_levels N a1 a2 a3 a4 a5 a6 a7 a8 a9).getD default)]),[],[]⟩
 | _=>none
theorem ok_overspill_residue_cell_levels(N:Nat):FnOK Tryz.prog gt0 42 (sp_overspill_residue_cell_levels N):=by
 refine fnOK_handed Tryz.func42 rfl (by kernel_rfl) tt_ok (ktCons (ok_scan_Raster N) (ktCons (ok_runs_Levels N) (ktCons (ok_overspill_residue_cell_intra N) (ktNil)))) ?_
 intro args lk r h hp
 unfold sp_overspill_residue_cell_levels at h
 split at h
 .rename_i a1 a2 a3 a4 a5 a6 a7 a8 a9
  change (List Int)at a5
  change (List Int)at a6
  change Zt1 at a7
  cases h
  obtain⟨x,hT⟩:=sX hp;clear hp
  simp only[hT,Option.getD_some]
  refine hand0 rfl rfl fun w0 M ε0 hX=>rCount fun hε => ?_
  unfold overspill_residue_cell_levels at hT
  refine zA hX ?_
  refine zA hX ?_
  refine rSeq ?_
  let c1:=(overspill_residue_cell_intra N a1 a2 a3 a4 a5 a6 a7 a8)
  replace hT:=sIf hT;obtain⟨o1,hT⟩:=hT
  refine zA hX ?_
  refine rJoin ⟨[(1,.v (.c (.int .i64 a9))),(2,.v (.c (.ptr 0 0 0 0 0 0))),(4,.v (.c (.ptr 1 0 0 0 0 0))),(5,.v (.c (.int .i64 (bif(c1.getD default)then(1:Int)else 0))))],[(0,.mem true 91 none (.flat [.cs [.int .i64 a1,.bool a2,.int .i64 a3,.int .i64 a4],.ints 2 .i64 a5,.ints 6 .i64 a6,.fzs 6 Zs1 a7,.cs [.int .i64 a8]])),(1,.mem true 62 none (.flat [.ints 64 .i64 (List.replicate 64 0)]))],2⟩ ?_ (fun hj => ?_)
  .refine rThen ?_
   let c2:=(runs_Levels N (a7.getD (a9).toNat []) (bif(c1.getD default)then(1:Int)else 0))
   replace hT:=sIf hT;obtain⟨⟨o1,o2,o3,o4⟩,hT⟩:=hT
   refine zA hX ?_
   let c3:=(scan_Raster N (c2.getD default).1)
   replace hT:=sIf hT;obtain⟨o1,hT⟩:=hT
   refine zA hX ?_
   refine rRet ?_
   have hy:=sJ hT;subst hy
   exact zEnd0 hX rfl
  .clear hT
   refine zCond rfl rfl (fun hc => ?_) (fun hc => ?_)
   .refine zReg md0 hX rfl rfl rfl ?_
    exact rTo (To.mk' [] 0 hε rfl zJ zJ) hj
   .refine rSkip ?_
    exact rTo (To.mk' [] 0 hε rfl zJ zJ) hj
 .cases h
def residue_every_levels_b1(N:Nat)(a8:Int)(a9:Bool)(a10:Int)(a11:Int)(a12:(List Int))(a13:(List Int))(a14:Zt1)(a15:Int) (s1:(Int×(List Int))):Option ((Int×(List Int))⊕(List Int)):=
 bif(decide (s1.1<6))then
  let c2:=(overspill_residue_cell_levels N a8 a9 a10 a11 a12 a13 a14 a15 s1.1)
  if c2.isSome=true/\(0:Int)<=s1.1/\s1.1<6/\(64*(s1.1).toNat)+64<=384 then
   if inK .i64 (s1.1+1)then
    some (.inl ((s1.1+1),(layL s1.2 (64*(s1.1).toNat) (c2.getD default) 64)))
   else none
  else none
 else
  some (.inr s1.2)
def residue_every_levels(N:Nat)(a1:Int)(a2:Bool)(a3:Int)(a4:Int)(a5:(List Int))(a6:(List Int))(a7:Zt1)(a8:Int)(a9:Bool)(a10:Int)(a11:Int)(a12:(List Int))(a13:(List Int))(a14:Zt1)(a15:Int):Option ((List Int)×Int):=
 let c1:=(cellout_Right N true a1 a2 a3 a4 a5 a6 a7)
 if c1.isSome=true then
  bif(!(c1.getD default))then
   some ((List.replicate 384 0),12)
  else
   (iter (residue_every_levels_b1 N a8 a9 a10 a11 a12 a13 a14 a15) N (0,(List.replicate 384 0))).bind fun v1=>
    some (v1,0)
 else none
def sp_residue_every_levels(N:Nat):X.Spec:=fun args lk=>match args with
 | [.v (.agg [.cs [.int .i64 a1,.bool a2,.int .i64 a3,.int .i64 a4],.ints 2 .i64 a5,.ints 6 .i64 a6,.fzs 6 (.pair .bool (.pair (.int .i64) (.int .i64))) a7]),.fnv 42 [.agg [.cs [.int .i64 a8,.bool a9,.int .i64 a10,.int .i64 a11],.ints 2 .i64 a12,.ints 6 .i64 a13,.fzs 6 (.pair .bool (.pair (.int .i64) (.int .i64))) a14,.cs [.int .i64 a15]]] []]=>some ⟨(residue_every_levels N a1 a2 a3 a4 a5 a6 a7 a8 a9 a10 a11 a12 a13 a14 a15).isSome=true,.tup [.agg [.ints 384 .i64 ((residue_every_levels N a1 a2 a3 a4 a5 a6 a7 a8 a9 a10 a11 a12 a13 a14 a15).getD default).1],.c (.int .i64 ((residue_every_levels N a1 a2 a3 a4 a5 a6 a7 a8 a9 a10 a11 a12 a13 a14 a15).getD default).2)],[],[]⟩
 | _=>none
theorem ok_residue_every_levels(N:Nat):FnOK Tryz.prog gt0 41 (sp_residue_every_levels N):=by
 refine fnOK_handed Tryz.func41 rfl (by kernel_rfl) tt_ok (ktCons (ok_overspill_residue_cell_levels N) (ktCons (ok_cellout_Right N) (ktNil))) ?_
 intro args lk r h hp
 unfold sp_residue_every_levels at h
 split at h
 .rename_i a1 a2 a3 a4 a5 a6 a7 a8 a9 a10 a11 a12 a13 a14 a15
  change (List Int)at a5
  change (List Int)at a6
  change Zt1 at a7
  change (List Int)at a12
  change (List Int)at a13
  change Zt1 at a14
  cases h
  obtain⟨x,hT⟩:=sX hp;clear hp
  simp only[hT,Option.getD_some]
  refine hand0 rfl rfl fun w0 M ε0 hX=>rCount fun hε => ?_
  unfold residue_every_levels at hT
  refine zA hX ?_
  refine rSeq ?_
  let c1:=(cellout_Right N true a1 a2 a3 a4 a5 a6 a7)
  replace hT:=sIf hT;obtain⟨o1,hT⟩:=hT
  refine zA hX ?_
  refine zCond rfl rfl (fun hc => ?_) (fun hc => ?_)
  .replace hT:=sT hc hT
   refine zA hX ?_
   refine rRet (rThenRet ?_)
   have hy:=sJ hT;subst hy
   exact zEnd0 hX rfl
  .replace hT:=sF hc hT
   refine rSkip (rThen (zA hX ?_))
   refine rSeq (zA hX ?_)
   refine rBlock ?_
   replace hT:=sBind hT;obtain⟨w1,hl,hT⟩:=hT
   refine rJoinA (fun v1=>v1=w1) (fun v1=>⟨[(4,.v (.c (.ptr 1 0 0 0 0 0))),(5,.v (.c (.int .i64 0))),(6,.v (.c (.ptr 2 0 0 0 0 0)))],[(1,.mem true 64 none (.flat [.ints 384 .i64 (List.replicate 384 0)])),(2,.mem true 64 none (.flat [.ints 384 .i64 v1]))],3⟩) (.exit 0) (fun v1 hv => ?_) (fun hxs10 => ?_)
   .subst hv;clear hl
    refine rInHit (rThen (zA hX ?_))
    refine rRet ?_
    have hy:=sJ hT;subst hy
    exact zEnd0 hX rfl
   refine rLoopM (residue_every_levels_b1 N a8 a9 a10 a11 a12 a13 a14 a15) (fun s1=>⟨[(1,.fnv 42 [.agg [.cs [.int .i64 a8,.bool a9,.int .i64 a10,.int .i64 a11],.ints 2 .i64 a12,.ints 6 .i64 a13,.fzs 6 Zs1 a14,.cs [.int .i64 a15]]] []),(4,.v (.c (.ptr 1 0 0 0 0 0))),(5,.v (.c (.int .i64 0))),(6,.v (.c (.ptr 2 0 0 0 0 0))),(12,.v (.c (.int .i64 s1.1)))],[(1,.mem true 64 none (.flat [.ints 384 .i64 (List.replicate 384 0)])),(2,.mem true 64 none (.flat [.ints 384 .i64 s1.2]))],3⟩) hl (To.mk' [] 0 hε rfl zL zL) (fun s1 zs1 NNs1 hz hnexts1 houts1 => ?_)
   clear hl hT
   have hT:=hz;clear hz
   refine zA hX ?_
   refine rSeq ?_
   refine zCond rfl rfl (fun hc => ?_) (fun hc => ?_)
   .replace hT:=sT hc hT
    refine rSkip (rThen (rSeq (rBlock (zA hX ?_))))
    let c2:=(overspill_residue_cell_levels N a8 a9 a10 a11 a12 a13 a14 a15 s1.1)
    replace hT:=sIf hT;obtain⟨⟨o1,o2,o3,o4⟩,hT⟩:=hT
    refine zReg md0 hX rfl rfl rfl ?_
    refine rInNormal (rThen ?_)
    replace hT:=sIf hT;obtain⟨o1,hT⟩:=hT
    refine zReg md0 hX rfl rfl rfl ?_
    exact hnexts1 _ (sJ hT).symm _ (To.mk' [] 0 hε rfl zL zL)
   .replace hT:=sF hc hT
    refine rExit (rThenExit (rThenExit ?_))
    exact zTo [] 0 hε (hxs10 _ (houts1 _ (sJ hT).symm))
 .cases h
def residue_Levels(N:Nat)(a1:Int)(a2:Bool)(a3:Int)(a4:Int)(a5:(List Int))(a6:(List Int))(a7:Zt1):Option ((List Int)×Int):=
 let c1:=(residue_every_levels N a1 a2 a3 a4 a5 a6 a7 a1 a2 a3 a4 a5 a6 a7 0)
 if c1.isSome=true then
  some ((c1.getD default).1,(c1.getD default).2)
 else none
def sp_residue_Levels(N:Nat):X.Spec:=fun args lk=>match args with
 | [.v (.agg [.cs [.int .i64 a1,.bool a2,.int .i64 a3,.int .i64 a4],.ints 2 .i64 a5,.ints 6 .i64 a6,.fzs 6 (.pair .bool (.pair (.int .i64) (.int .i64))) a7])]=>some ⟨(residue_Levels N a1 a2 a3 a4 a5 a6 a7).isSome=true,.tup [.agg [.ints 384 .i64 ((residue_Levels N a1 a2 a3 a4 a5 a6 a7).getD default).1],.c (.int .i64 ((residue_Levels N a1 a2 a3 a4 a5 a6 a7).getD default).2)],[],[]⟩
 | _=>none
theorem ok_residue_Levels(N:Nat):FnOK Tryz.prog gt0 19 (sp_residue_Levels N):=by
 refine fnOK_handed Tryz.func19 rfl (by kernel_rfl) tt_ok (ktCons (ok_residue_every_levels N) (ktNil)) ?_
 intro args lk r h hp
 unfold sp_residue_Levels at h
 split at h
 .rename_i a1 a2 a3 a4 a5 a6 a7
  change (List Int)at a5
  change (List Int)at a6
  change Zt1 at a7
  cases h
  obtain⟨x,hT⟩:=sX hp;clear hp
  simp only[hT,Option.getD_some]
  refine hand0 rfl rfl fun w0 M ε0 hX=>rCount fun hε => ?_
  unfold residue_Levels at hT
  refine zA hX ?_
  let c1:=(residue_every_levels N a1 a2 a3 a4 a5 a6 a7 a1 a2 a3 a4 a5 a6 a7 0)
  replace hT:=sIf hT;obtain⟨o1,hT⟩:=hT
  refine zA hX ?_
  refine rRet ?_
  have hy:=sJ hT;subst hy
  exact zEnd0 hX rfl
 .cases h
def stores_Right_b2(N:Nat) (a2:(List (List Int))) (s1:(Bool×Int)) (s2:(Bool×Int)):Option ((Bool×Int)⊕(Bool×Int×Bool)):=
 bif(decide (s2.2<((a2.getD (s1.2).toNat []).length:Int)))then
  if(0:Int)<=s2.2/\s2.2<((a2.getD (s1.2).toNat []).length:Int)then
   let x3:=(bif(bif s2.1 then(decide (((-255):Int)<=((a2.getD (s1.2).toNat []).getD (s2.2).toNat 0)))else false)then(decide (((a2.getD (s1.2).toNat []).getD (s2.2).toNat 0)<=255))else false)
   if inK .i64 (s2.2+1)then
    some (.inl (x3,(s2.2+1)))
   else none
  else none
 else
  some (.inr (s2.1,s2.2,(decide (s2.2<((a2.getD (s1.2).toNat []).length:Int)))))
def stores_Right_b1(N:Nat)(a1:Int) (a2:(List (List Int))) (s1:(Bool×Int)):Option ((Bool×Int)⊕Bool):=
 bif(decide (s1.2<3))then
  if(0:Int)<=s1.2/\s1.2<3/\(s1.2).toNat<3 then
   let c2:=(formats_Plane N a1 s1.2)
   if c2.isSome=true then
    let x1:=(bif s1.1 then(decide (((a2.getD (s1.2).toNat []).length:Int)=((c2.getD default).1*(c2.getD default).2)))else false)
    if(s1.1=true->inK .i64 ((c2.getD default).1*(c2.getD default).2))then
     (iter (stores_Right_b2 N a2 s1) N (x1,0)).bind fun v2=>
      if inK .i64 (s1.2+1)then
       some (.inl (v2.1,(s1.2+1)))
      else none
    else none
   else none
  else none
 else
  some (.inr s1.1)
def stores_Right(N:Nat)(a1:Int) (a2:(List (List Int))):Option Bool:=
 let c1:=(formats_Size N a1)
 if c1.isSome=true then
  (iter (stores_Right_b1 N a1 a2) N ((c1.getD default).2.2,0)).bind fun v1=>
   some v1
 else none
def sp_stores_Right(N:Nat):X.Spec:=fun args lk=>match args with
 | [.v (.agg [.cs [.int .i64 a1],.fzs 3 (.int .i64) a2])]=>some ⟨(stores_Right N a1 a2).isSome=true,.v (.c (.bool ((stores_Right N a1 a2).getD default))),[],[]⟩
 | _=>none
theorem ok_stores_Right(N:Nat):FnOK Tryz.prog gt0 66 (sp_stores_Right N):=by
 refine fnOK_handed Tryz.func66 rfl (by kernel_rfl) tt_ok (ktCons (ok_formats_Plane N) (ktCons (ok_formats_Size N) (ktNil))) ?_
 intro args lk r h hp
 unfold sp_stores_Right at h
 split at h
 .rename_i a1 a2
  change (List (List Int))at a2
  cases h
  obtain⟨x,hT⟩:=sX hp;clear hp
  simp only[hT,Option.getD_some]
  refine hand0 rfl rfl fun w0 M ε0 hX=>rCount fun hε => ?_
  unfold stores_Right at hT
  refine zA hX ?_
  let c1:=(formats_Size N a1)
  replace hT:=sIf hT;obtain⟨o1,hT⟩:=hT
  refine zA hX ?_
  refine rSeq (zA hX ?_)
  refine rBlock ?_
  replace hT:=sBind hT;obtain⟨w1,hl,hT⟩:=hT
  refine rJoinA (fun v1=>v1=w1) (fun v1=>⟨[(2,.v (.c (.bool false))),(5,.v (.c (.bool v1)))],[],1⟩) (.exit 0) (fun v1 hv => ?_) (fun hxs10 => ?_)
  .subst hv;clear hl
   refine rInHit (rThen (zA hX ?_))
   refine rRet ?_
   have hy:=sJ hT;subst hy
   exact zEnd0 hX rfl
  refine rLoopM (stores_Right_b1 N a1 a2) (fun s1=>⟨[(1,.v (.c (.ptr 0 0 0 0 0 0))),(2,.v (.c (.bool false))),(5,.v (.c (.bool s1.1))),(20,.v (.agg [.fzs 3 (.int .i64) a2])),(21,.v (.c (.int .i64 s1.2)))],[(0,.mem true 29 none (.flat [.cs [.int .i64 a1],.fzs 3 (.int .i64) a2]))],1⟩) hl (To.mk' [] 0 hε rfl zL zL) (fun s1 zs1 NNs1 hz hnexts1 houts1 => ?_)
  clear hl hT
  have hT:=hz;clear hz
  refine zA hX ?_
  refine rSeq ?_
  refine zCond rfl rfl (fun hc => ?_) (fun hc => ?_)
  .replace hT:=sT hc hT
   refine rSkip (rThen (rSeq (rBlock ?_)))
   replace hT:=sIf hT;obtain⟨⟨o1,o2,o3⟩,hT⟩:=hT
   refine zA hX ?_
   let c2:=(formats_Plane N a1 s1.2)
   replace hT:=sIf hT;obtain⟨o1,hT⟩:=hT
   refine zA hX ?_
   let x1:=(bif s1.1 then(decide (((a2.getD (s1.2).toNat []).length:Int)=((c2.getD default).1*(c2.getD default).2)))else false)
   replace hT:=sIf hT;obtain⟨o1,hT⟩:=hT
   refine rSeq (rRegC md0 hX rfl rfl rfl zO ?_)
   refine rThen (zA hX ?_)
   refine rBlock ?_
   replace hT:=sBind hT;obtain⟨w2,hl,hT⟩:=hT
   refine rJoinA (fun v2=>v2=w2) (fun v2=>⟨[(1,.v (.c (.ptr 0 0 0 0 0 0))),(2,.v (.c (.bool false))),(5,.v (.c (.bool v2.1))),(6,.v (.c (.int .i64 s1.2))),(7,.v (.c (.fz (.int .i64) (a2.getD (s1.2).toNat [])))),(8,.v (.c (.int .i64 (c2.getD default).1))),(9,.v (.c (.int .i64 (c2.getD default).2))),(20,.v (.agg [.fzs 3 (.int .i64) a2])),(21,.v (.c (.int .i64 s1.2))),(22,.v (.c (.bool (decide (s1.2<3))))),(23,.v (.c (.int .i64 s1.2))),(24,.v (.c (.fz (.int .i64) (a2.getD (s1.2).toNat [])))),(25,.tup [.c (.int .i64 (c2.getD default).1),.c (.int .i64 (c2.getD default).2)]),(26,.v (.c (.ptr 0 0 0 0 0 0))),(27,.v (.c (.int .i64 a1))),(28,.v (.c (.int .i64 s1.2))),(29,.tup [.c (.int .i64 (c2.getD default).1),.c (.int .i64 (c2.getD default).2)]),(30,.v (.c (.int .i64 (c2.getD default).1))),(31,.v (.c (.int .i64 (c2.getD default).2))),(32,.v (.c (.bool s1.1))),(33,.v (.c (.bool s1.1))),(40,.v (.c (.bool x1))),(41,.v (.c (.fz (.int .i64) (a2.getD (s1.2).toNat [])))),(42,.v (.c (.int .i64 ((a2.getD (s1.2).toNat []).length:Int)))),(43,.v (.c (.int .i64 v2.2.1))),(44,.v (.c (.bool v2.2.2)))],[(0,.mem true 29 none (.flat [.cs [.int .i64 a1],.fzs 3 (.int .i64) a2]))],1⟩) (.exit 2) (fun v2 hv => ?_) (fun hxs20 => ?_)
   .subst hv;clear hl
    refine rInHit (rInNormal (rThen ?_))
    replace hT:=sIf hT;obtain⟨o1,hT⟩:=hT
    refine zReg md0 hX rfl rfl rfl ?_
    exact hnexts1 _ (sJ hT).symm _ (To.mk' [] 0 hε rfl zL zL)
   refine rLoopM (stores_Right_b2 N a2 s1) (fun s2=>⟨[(1,.v (.c (.ptr 0 0 0 0 0 0))),(2,.v (.c (.bool false))),(5,.v (.c (.bool s2.1))),(6,.v (.c (.int .i64 s1.2))),(7,.v (.c (.fz (.int .i64) (a2.getD (s1.2).toNat [])))),(8,.v (.c (.int .i64 (c2.getD default).1))),(9,.v (.c (.int .i64 (c2.getD default).2))),(20,.v (.agg [.fzs 3 (.int .i64) a2])),(21,.v (.c (.int .i64 s1.2))),(22,.v (.c (.bool (decide (s1.2<3))))),(23,.v (.c (.int .i64 s1.2))),(24,.v (.c (.fz (.int .i64) (a2.getD (s1.2).toNat [])))),(25,.tup [.c (.int .i64 (c2.getD default).1),.c (.int .i64 (c2.getD default).2)]),(26,.v (.c (.ptr 0 0 0 0 0 0))),(27,.v (.c (.int .i64 a1))),(28,.v (.c (.int .i64 s1.2))),(29,.tup [.c (.int .i64 (c2.getD default).1),.c (.int .i64 (c2.getD default).2)]),(30,.v (.c (.int .i64 (c2.getD default).1))),(31,.v (.c (.int .i64 (c2.getD default).2))),(32,.v (.c (.bool s1.1))),(33,.v (.c (.bool s1.1))),(40,.v (.c (.bool x1))),(41,.v (.c (.fz (.int .i64) (a2.getD (s1.2).toNat [])))),(42,.v (.c (.int .i64 ((a2.getD (s1.2).toNat []).length:Int)))),(43,.v (.c (.int .i64 s2.2)))],[(0,.mem true 29 none (.flat [.cs [.int .i64 a1],.fzs 3 (.int .i64) a2]))],1⟩) hl (To.mk' [] 0 hε rfl zL zL) (fun s2 zs2 NNs2 hz hnexts2 houts2 => ?_)
   clear hl hT
   have hT:=hz;clear hz
   refine zA hX ?_
   refine rSeq ?_
   refine zCond rfl rfl (fun hc => ?_) (fun hc => ?_)
   .replace hT:=sT hc hT
    refine rSkip (rThen (rSeq (rBlock ?_)))
    replace hT:=sIf hT;obtain⟨⟨o1,o2⟩,hT⟩:=hT
    refine zA hX ?_
    let x3:=(bif(bif s2.1 then(decide (((-255):Int)<=((a2.getD (s1.2).toNat []).getD (s2.2).toNat 0)))else false)then(decide (((a2.getD (s1.2).toNat []).getD (s2.2).toNat 0)<=255))else false)
    refine zReg md0 hX rfl rfl rfl ?_
    refine rInNormal (rThen ?_)
    replace hT:=sIf hT;obtain⟨o1,hT⟩:=hT
    refine zReg md0 hX rfl rfl rfl ?_
    exact hnexts2 _ (sJ hT).symm _ (To.mk' [] 0 hε rfl zL zL)
   .replace hT:=sF hc hT
    refine rExit (rThenExit (rThenExit ?_))
    exact zTo [] 0 hε (hxs20 _ (houts2 _ (sJ hT).symm))
  .replace hT:=sF hc hT
   refine rExit (rThenExit (rThenExit ?_))
   exact zTo [] 0 hε (hxs10 _ (houts1 _ (sJ hT).symm))
 .cases h
def planes_New_own(N:Nat)(a1:Int)(a2:Int):Option Zt2:=
 let c1:=(formats_Size N a1)
 if c1.isSome=true then
  bif(!(c1.getD default).2.2)then
   some (0,0,0,0,1,0,[],0,[],0,[])
  else
   let c2:=(formats_Plane N a1 0)
   if c2.isSome=true then
    let c3:=(whole_Clip N a2 0 255)
    let c4:=(rep N 1 ((c2.getD default).1*(c2.getD default).2) ((List.replicate 1 0).set 0 (c3.getD default)))
    if c3.isSome=true/\inK .u8 (c3.getD default)/\inK .i64 ((c2.getD default).1*(c2.getD default).2)/\c4.isSome=true then
     let c5:=(formats_Plane N a1 1)
     if c5.isSome=true then
      let c6:=(whole_Clip N a2 0 255)
      let c7:=(rep N 1 ((c5.getD default).1*(c5.getD default).2) ((List.replicate 1 0).set 0 (c6.getD default)))
      if c6.isSome=true/\inK .u8 (c6.getD default)/\inK .i64 ((c5.getD default).1*(c5.getD default).2)/\c7.isSome=true then
       let c8:=(formats_Plane N a1 2)
       if c8.isSome=true then
        let c9:=(whole_Clip N a2 0 255)
        let c10:=(rep N 1 ((c8.getD default).1*(c8.getD default).2) ((List.replicate 1 0).set 0 (c9.getD default)))
        if c9.isSome=true/\inK .u8 (c9.getD default)/\inK .i64 ((c8.getD default).1*(c8.getD default).2)/\c10.isSome=true then
         some (a1,(c4.getD default).1,(c7.getD default).1,(c10.getD default).1,0,(c4.getD default).2.1,(c4.getD default).2.2,(c7.getD default).2.1,(c7.getD default).2.2,(c10.getD default).2.1,(c10.getD default).2.2)
        else none
       else none
      else none
     else none
    else none
   else none
 else none
def sp_planes_New_own(N:Nat):X.Spec:=fun args lk=>match args with
 | [.v (.c (.int .i64 a1)),.v (.c (.int .i64 a2))]=>some ⟨(planes_New_own N a1 a2).isSome=true,.tup [.agg [.cs [.int .i64 ((planes_New_own N a1 a2).getD default).1,.sl 0 0 ((planes_New_own N a1 a2).getD default).2.1 1,.sl 1 0 ((planes_New_own N a1 a2).getD default).2.2.1 1,.sl 2 0 ((planes_New_own N a1 a2).getD default).2.2.2.1 1]],.c (.int .i64 ((planes_New_own N a1 a2).getD default).2.2.2.2.1)],[.mem true 5 (some 0) (.flat [.ints ((planes_New_own N a1 a2).getD default).2.2.2.2.2.1 .u8 ((planes_New_own N a1 a2).getD default).2.2.2.2.2.2.1]),.mem true 5 (some 0) (.flat [.ints ((planes_New_own N a1 a2).getD default).2.2.2.2.2.2.2.1 .u8 ((planes_New_own N a1 a2).getD default).2.2.2.2.2.2.2.2.1]),.mem true 5 (some 0) (.flat [.ints ((planes_New_own N a1 a2).getD default).2.2.2.2.2.2.2.2.2.1 .u8 ((planes_New_own N a1 a2).getD default).2.2.2.2.2.2.2.2.2.2])],[]⟩
 | _=>none
theorem ok_planes_New_own(N:Nat):FnOK Tryz.prog gt0 17 (sp_planes_New_own N):=by
 refine fnOK_handed Tryz.func17 rfl (by kernel_rfl) ttC_ok (ktCons (ok_rep N) (ktCons (ok_whole_Clip N) (ktCons (ok_formats_Plane N) (ktCons (ok_formats_Size N) (ktNil))))) ?_
 intro args lk r h hp
 unfold sp_planes_New_own at h
 split at h
 .rename_i a1 a2
  cases h
  obtain⟨x,hT⟩:=sX hp;clear hp
  simp only[hT,Option.getD_some]
  refine hand0 rfl rfl fun w0 M ε0 hX=>rCount fun hε => ?_
  unfold planes_New_own at hT
  refine zA hX ?_
  refine rSeq ?_
  let c1:=(formats_Size N a1)
  replace hT:=sIf hT;obtain⟨o1,hT⟩:=hT
  refine zA hX ?_
  refine zA hX ?_
  refine zCond rfl rfl (fun hc => ?_) (fun hc => ?_)
  .replace hT:=sT hc hT
   refine zA hX ?_
   refine rRet (rThenRet (rNilQ 5 1 (.flat [.ints 0 .u8 []]) [(4,.v (.c (.ptr 0 0 0 0 0 0))),(5,.v (.c (.int .i64 1)))] [(0,.mem true 25 none (.flat [.cs [.int .i64 0,.sl 1 0 0 1,.val (.slice none 0 0),.val (.slice none 0 0)]]))] (nil_ints _) zF zF ?_))
   refine rNilQ 5 1 (.flat [.ints 0 .u8 []]) [(4,.v (.c (.ptr 0 0 0 0 0 0))),(5,.v (.c (.int .i64 1)))] [(0,.mem true 25 none (.flat [.cs [.int .i64 0,.sl 1 0 0 1,.sl 2 0 0 1,.val (.slice none 0 0)]])),(1,.mem true 5 (some 1) (.flat [.ints 0 .u8 []]))] (nil_ints _) zF zF ?_
   refine rNilQ 5 1 (.flat [.ints 0 .u8 []]) [(4,.v (.c (.ptr 0 0 0 0 0 0))),(5,.v (.c (.int .i64 1)))] [(0,.mem true 25 none (.flat [.cs [.int .i64 0,.sl 1 0 0 1,.sl 2 0 0 1,.sl 3 0 0 1]])),(1,.mem true 5 (some 1) (.flat [.ints 0 .u8 []])),(2,.mem true 5 (some 1) (.flat [.ints 0 .u8 []]))] (nil_ints _) zF zF ?_
   refine rTail0Q 1 rfl rfl ?_
   refine rTail0Q 2 rfl rfl ?_
   refine rTail0Q 3 rfl rfl ?_
   have hy:=sJ hT;subst hy
   exact rEndA [1,2,3] [.mem true 5 (some 0) (.flat [.ints 0 .u8 []]),.mem true 5 (some 0) (.flat [.ints 0 .u8 []]),.mem true 5 (some 0) (.flat [.ints 0 .u8 []])] [] (.tup [.agg [.cs [.int .i64 0,.sl 1 0 0 1,.sl 2 0 0 1,.sl 3 0 0 1]],.c (.int .i64 1)]) hX rfl zZ zL rfl rfl rfl zT rfl rfl zT rfl rfl
  .replace hT:=sF hc hT
   refine rSkip (rThen (zA hX ?_))
   refine rSeq (zA hX ?_)
   refine rBlock (rRounds 24 ?_)
   refine zA hX ?_
   refine rSeq (rCondT rfl rfl zP rfl ?_)
   refine rSkip (rThen (rSeq (rBlock (zA hX ?_))))
   let c2:=(formats_Plane N a1 0)
   replace hT:=sIf hT;obtain⟨o1,hT⟩:=hT
   refine zA hX ?_
   let c3:=(whole_Clip N a2 0 255)
   let c4:=(rep N 1 ((c2.getD default).1*(c2.getD default).2) ((List.replicate 1 0).set 0 (c3.getD default)))
   replace hT:=sIf hT;obtain⟨⟨o1,o2,o3,o4⟩,hT⟩:=hT
   refine zReg md0 hX rfl rfl rfl ?_
   refine rInNormal (rThen (zReg md0 hX rfl rfl rfl ?_))
   refine rRound ?_
   refine zA hX ?_
   refine rSeq (rCondT rfl rfl zP rfl ?_)
   refine rSkip (rThen (rSeq (rBlock (zA hX ?_))))
   let c5:=(formats_Plane N a1 1)
   replace hT:=sIf hT;obtain⟨o1,hT⟩:=hT
   refine zA hX ?_
   let c6:=(whole_Clip N a2 0 255)
   let c7:=(rep N 1 ((c5.getD default).1*(c5.getD default).2) ((List.replicate 1 0).set 0 (c6.getD default)))
   replace hT:=sIf hT;obtain⟨⟨o1,o2,o3,o4⟩,hT⟩:=hT
   refine zReg md0 hX rfl rfl rfl ?_
   refine rInNormal (rThen (zReg md0 hX rfl rfl rfl ?_))
   refine rRound ?_
   refine zA hX ?_
   refine rSeq (rCondT rfl rfl zP rfl ?_)
   refine rSkip (rThen (rSeq (rBlock (zA hX ?_))))
   let c8:=(formats_Plane N a1 2)
   replace hT:=sIf hT;obtain⟨o1,hT⟩:=hT
   refine zA hX ?_
   let c9:=(whole_Clip N a2 0 255)
   let c10:=(rep N 1 ((c8.getD default).1*(c8.getD default).2) ((List.replicate 1 0).set 0 (c9.getD default)))
   replace hT:=sIf hT;obtain⟨⟨o1,o2,o3,o4⟩,hT⟩:=hT
   refine zReg md0 hX rfl rfl rfl ?_
   refine rInNormal (rThen (zReg md0 hX rfl rfl rfl ?_))
   refine rRound ?_
   refine zA hX ?_
   refine rSeq (rCondF rfl rfl zP rfl ?_)
   refine rExit (rThenExit (rThenExit (rInHit (rThen (zA hX ?_)))))
   refine rRet ?_
   have hy:=sJ hT;subst hy
   exact rEndA [3,5,7] [.mem true 5 (some 0) (.flat [.ints (c4.getD default).2.1 .u8 (c4.getD default).2.2]),.mem true 5 (some 0) (.flat [.ints (c7.getD default).2.1 .u8 (c7.getD default).2.2]),.mem true 5 (some 0) (.flat [.ints (c10.getD default).2.1 .u8 (c10.getD default).2.2])] [] (.tup [.agg [.cs [.int .i64 a1,.sl 3 0 (c4.getD default).1 1,.sl 5 0 (c7.getD default).1 1,.sl 7 0 (c10.getD default).1 1]],.c (.int .i64 0)]) hX rfl zZ zL rfl rfl rfl zT rfl rfl zT rfl rfl
 .cases h
end Go.Proofs.YtnpokkaalcfbfaaGreatDoor
