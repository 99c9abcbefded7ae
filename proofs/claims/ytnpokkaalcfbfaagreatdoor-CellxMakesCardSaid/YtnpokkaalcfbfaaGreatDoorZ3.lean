/- Models of functions, and that the program does what they tell. -/
import Derived.Test.YtnpokkaalcfbfaaGreatDoorZ2
set_option linter.unusedVariables false
set_option linter.unusedSimpArgs false
namespace Go.Proofs.YtnpokkaalcfbfaaGreatDoor
open Go.X
set_option maxRecDepth 100000
set_option maxHeartbeats 1000000
def ref22_Right_b1(N:Nat)(a4:Int)(a7:(List Int))(a8:Zt1)(s2:Int):Option (Int⊕(Unit⊕Unit)):=
 bif(decide (s2<6))then
  let c2:=(ref21_Intra N a4)
  let c3:=(ref15_May N (c2.getD default) (a7.getD (s2).toNat 0) (a8.getD (s2).toNat []))
  if c2.isSome=true/\(0:Int)<=s2/\s2<6/\(s2).toNat<6/\c3.isSome=true then
   bif(!(c3.getD default))then
    some (.inr (Sum.inl ()))
   else
    if inK .i64 (s2+1)then
     some (.inl (s2+1))
    else none
  else none
 else
  some (.inr (Sum.inr ()))
def ref22_Right_b2(N:Nat)(a4:Int)(a6:(List Int))(s1:Int):Option (Int⊕(Unit⊕Unit)):=
 bif(decide (s1<2))then
  let x8:=(bif(bif(decide ((a6.getD (s1).toNat 0)<(-32)))then true else(decide ((31:Int)<(a6.getD (s1).toNat 0))))then true else(bif(decide ((2:Int)<a4))then(decide ((a6.getD (s1).toNat 0)≠0))else false))
  if(0:Int)<=s1/\s1<2/\(s1).toNat<2/\((!(decide ((a6.getD (s1).toNat 0)<(-32))))=true->(0:Int)<=s1)/\((!(decide ((a6.getD (s1).toNat 0)<(-32))))=true->s1<2)/\((!(decide ((a6.getD (s1).toNat 0)<(-32))))=true->(s1).toNat<2)/\(((!(bif(decide ((a6.getD (s1).toNat 0)<(-32)))then true else(decide ((31:Int)<(a6.getD (s1).toNat 0)))))&&(decide ((2:Int)<a4)))=true->(0:Int)<=s1)/\(((!(bif(decide ((a6.getD (s1).toNat 0)<(-32)))then true else(decide ((31:Int)<(a6.getD (s1).toNat 0)))))&&(decide ((2:Int)<a4)))=true->s1<2)/\(((!(bif(decide ((a6.getD (s1).toNat 0)<(-32)))then true else(decide ((31:Int)<(a6.getD (s1).toNat 0)))))&&(decide ((2:Int)<a4)))=true->(s1).toNat<2)/\((!(bif(decide ((a6.getD (s1).toNat 0)<(-32)))then true else(decide ((31:Int)<(a6.getD (s1).toNat 0)))))=true->((decide ((2:Int)<a4))=true->((!(bif(decide ((a6.getD (s1).toNat 0)<(-32)))then true else(decide ((31:Int)<(a6.getD (s1).toNat 0)))))&&(decide ((2:Int)<a4)))=true))then
   bif x8 then
    some (.inr (Sum.inl ()))
   else
    if inK .i64 (s1+1)then
     some (.inl (s1+1))
    else none
  else none
 else
  some (.inr (Sum.inr ()))
def ref22_Right(N:Nat)(a1:Bool)(a2:Int)(a3:Bool)(a4:Int)(a5:Int)(a6:(List Int))(a7:(List Int))(a8:Zt1):Option Bool:=
 bif(bif(decide (a2<0))then true else(decide ((64:Int)<a2)))then
  some false
 else
  bif a3 then
   let c1:=(ref22_zero N a2 a3 a4 a5 a6 a7 a8)
   if(a1=true->c1.isSome=true)then
    some (bif a1 then(c1.getD default)else false)
   else none
  else
   let x4:=(bif(bif(bif(decide (a4<0))then true else(decide ((4:Int)<a4)))then true else(decide (a4=2)))then true else(bif(decide (a4<2))then(!a1)else false))
   if((!(bif(bif(decide (a4<0))then true else(decide ((4:Int)<a4)))then true else(decide (a4=2))))=true->((decide (a4<2))=true->((!(bif(bif(decide (a4<0))then true else(decide ((4:Int)<a4)))then true else(decide (a4=2))))&&(decide (a4<2)))=true))then
    bif x4 then
     some false
    else
     joinK (fun(v1:Unit)=>
      (iter (ref22_Right_b2 N a4 a6) N 0).bind fun w1=>
       (Sum.elim (fun v2=>
        some false
       )
        (fun v3=>
         (iter (ref22_Right_b1 N a4 a7 a8) N 0).bind fun w2=>
          (Sum.elim (fun v4=>
           some false
          )
           (fun v5=>
            some true
           )
          ) w2
        )
       ) w1
     ) fun k1=>
      bif(bif(decide (a4=1))then true else(decide (a4=4)))then
       let c4:=(ref20_Row N a5)
       if c4.isSome=true then
        bif(decide (ByteArray.toList (c4.getD default)=ByteArray.toList ⟨#[]⟩))then
         some false
        else
         k1 ()
       else none
      else
       bif(decide (a5≠0))then
        some false
       else
        k1 ()
   else none
def sp_ref22_Right(N:Nat):X.Spec:=fun args lk=>match args with
 | [.v (.c (.bool a1)),.v (.agg [.cs [.int .i64 a2,.bool a3,.int .i64 a4,.int .i64 a5],.ints 2 .i64 a6,.ints 6 .i64 a7,.fzs 6 (.pair .bool (.pair (.int .i64) (.int .i64))) a8])]=>some ⟨(ref22_Right N a1 a2 a3 a4 a5 a6 a7 a8).isSome=true,.v (.c (.bool ((ref22_Right N a1 a2 a3 a4 a5 a6 a7 a8).getD default))),[],[]⟩
 | _=>none
theorem ok_ref22_Right(N:Nat):FnOK Tryz.prog gt0 7 (sp_ref22_Right N):=by
 refine fnOK_handed Tryz.func7 rfl (by kernel_rfl) tt_ok (ktCons (ok_ref20_Row N) (ktCons (ok_ref15_May N) (ktCons (ok_ref21_Intra N) (ktCons (ok_ref22_zero N) (ktNil))))) ?_
 intro args lk r h hp
 unfold sp_ref22_Right at h
 split at h
 .rename_i a1 a2 a3 a4 a5 a6 a7 a8
  change (List Int)at a6
  change (List Int)at a7
  change Zt1 at a8
  cases h
  obtain⟨x,hT⟩:=sX hp;clear hp
  simp only[hT,Option.getD_some]
  refine hand0 rfl rfl fun w0 M ε0 hX=>rCount fun hε => ?_
  unfold ref22_Right at hT
  refine zA hX ?_
  refine rSeq (zA hX ?_)
  refine zCond rfl rfl (fun hc => ?_) (fun hc => ?_)
  .replace hT:=sT hc hT
   refine zA hX ?_
   refine rRet (rThenRet ?_)
   have hy:=sJ hT;subst hy
   exact zEnd0 hX rfl
  .replace hT:=sF hc hT
   refine rSkip (rThen (rSeq (zA hX ?_)))
   refine zCond rfl rfl (fun hc => ?_) (fun hc => ?_)
   .replace hT:=sT hc hT
    let c1:=(ref22_zero N a2 a3 a4 a5 a6 a7 a8)
    replace hT:=sIf hT;obtain⟨o1,hT⟩:=hT
    refine rSeq (rRegC md0 hX rfl rfl rfl zO ?_)
    refine rThen (rRet (rThenRet ?_))
    have hy:=sJ hT;subst hy
    exact zEnd0 hX rfl
   .replace hT:=sF hc hT
    refine rSkip (rThen (rSeq ?_))
    let x4:=(bif(bif(bif(decide (a4<0))then true else(decide ((4:Int)<a4)))then true else(decide (a4=2)))then true else(bif(decide (a4<2))then(!a1)else false))
    replace hT:=sIf hT;obtain⟨o1,hT⟩:=hT
    refine rSeq (rRegC md0 hX rfl rfl rfl zO ?_)
    refine rThen ?_
    refine zCond rfl rfl (fun hc => ?_) (fun hc => ?_)
    .replace hT:=sT hc hT
     refine zA hX ?_
     refine rRet (rThenRet ?_)
     have hy:=sJ hT;subst hy
     exact zEnd0 hX rfl
    .replace hT:=sF hc hT
     refine rSkip (rThen (rSeq (zA hX ?_)))
     refine rJoinK hT (fun v1=>⟨[(3,.v (.c (.ptr 0 0 0 0 0 0))),(4,.v (.c (.bool false)))],[(0,.mem true 35 none (.flat [.cs [.int .i64 a2,.bool a3,.int .i64 a4,.int .i64 a5],.ints 2 .i64 a6,.ints 6 .i64 a7,.fzs 6 Zs1 a8]))],1⟩) (fun v1 hT => ?_) (fun k1 hjk1 hT => ?_)
     .refine rThen (rSeq (zA hX ?_))
      refine rBlock ?_
      replace hT:=sBind hT;obtain⟨w1,hl,hT⟩:=hT
      refine rJoinA (fun v2=>(Sum.inl v2)=w1) (fun v2=>⟨[(4,.v (.c (.bool false)))],[],1⟩) .ret (fun v2 hv => ?_) (fun hxs10 => ?_)
      .subst hv;clear hl;replace hT:=(sElimL hT)
       refine rInRet (rThenRet ?_)
       have hy:=sJ hT;subst hy
       exact zEnd0 hX rfl
      refine rJoinA (fun v3=>(Sum.inr v3)=w1) (fun v3=>⟨[(3,.v (.c (.ptr 0 0 0 0 0 0))),(4,.v (.c (.bool false)))],[(0,.mem true 35 none (.flat [.cs [.int .i64 a2,.bool a3,.int .i64 a4,.int .i64 a5],.ints 2 .i64 a6,.ints 6 .i64 a7,.fzs 6 Zs1 a8]))],1⟩) (.exit 0) (fun v3 hv => ?_) (fun hxs11 => ?_)
      .subst hv;clear hl;replace hT:=(sElimR hT)
       refine rInHit (rThen (rSeq (zA hX ?_)))
       refine rBlock ?_
       replace hT:=sBind hT;obtain⟨w2,hl,hT⟩:=hT
       refine rJoinA (fun v4=>(Sum.inl v4)=w2) (fun v4=>⟨[(4,.v (.c (.bool false)))],[],1⟩) .ret (fun v4 hv => ?_) (fun hxs20 => ?_)
       .subst hv;clear hl;replace hT:=(sElimL hT)
        refine rInRet (rThenRet ?_)
        have hy:=sJ hT;subst hy
        exact zEnd0 hX rfl
       refine rJoinA (fun v5=>(Sum.inr v5)=w2) (fun v5=>⟨[(4,.v (.c (.bool false)))],[],1⟩) (.exit 2) (fun v5 hv => ?_) (fun hxs21 => ?_)
       .subst hv;clear hl;replace hT:=(sElimR hT)
        refine rInHit (rThen (zA hX ?_))
        refine rRet ?_
        have hy:=sJ hT;subst hy
        exact zEnd0 hX rfl
       refine rLoopM (ref22_Right_b1 N a4 a7 a8) (fun s2=>⟨[(3,.v (.c (.ptr 0 0 0 0 0 0))),(4,.v (.c (.bool false))),(6,.v (.c (.int .i64 s2)))],[(0,.mem true 35 none (.flat [.cs [.int .i64 a2,.bool a3,.int .i64 a4,.int .i64 a5],.ints 2 .i64 a6,.ints 6 .i64 a7,.fzs 6 Zs1 a8]))],1⟩) hl (To.mk' [] 0 hε rfl zL zL) (fun s2 zs2 NNs2 hz hnexts2 houts2 => ?_)
       clear hl hT
       have hT:=hz;clear hz
       refine rSeq (zA hX ?_)
       refine zCond rfl rfl (fun hc => ?_) (fun hc => ?_)
       .replace hT:=sT hc hT
        refine rSkip (rThen (rSeq (rBlock ?_)))
        let c2:=(ref21_Intra N a4)
        let c3:=(ref15_May N (c2.getD default) (a7.getD (s2).toNat 0) (a8.getD (s2).toNat []))
        replace hT:=sIf hT;obtain⟨⟨o1,o2,o3,o4,o5⟩,hT⟩:=hT
        refine rSeq (zDraw md0 0 [] hX mixed rfl rfl rfl rfl rfl ?_)
        refine rThen ?_
        refine zCond rfl rfl (fun hc => ?_) (fun hc => ?_)
        .replace hT:=sT hc hT
         refine zA hX ?_
         refine rRet (rInRet (rThenRet (rThenRet ?_)))
         exact zTo [] 0 hε (hxs20 _ (houts2 _ (sJ hT).symm))
        .replace hT:=sF hc hT
         refine rSkip (rInNormal (rThen ?_))
         replace hT:=sIf hT;obtain⟨o1,hT⟩:=hT
         refine zReg md0 hX rfl rfl rfl ?_
         exact hnexts2 _ (sJ hT).symm _ (To.mk' [] 0 hε rfl zL zL)
       .replace hT:=sF hc hT
        refine rExit (rThenExit (rThenExit ?_))
        exact zTo [] 0 hε (hxs21 _ (houts2 _ (sJ hT).symm))
      refine rLoopM (ref22_Right_b2 N a4 a6) (fun s1=>⟨[(3,.v (.c (.ptr 0 0 0 0 0 0))),(4,.v (.c (.bool false))),(5,.v (.c (.int .i64 s1)))],[(0,.mem true 35 none (.flat [.cs [.int .i64 a2,.bool a3,.int .i64 a4,.int .i64 a5],.ints 2 .i64 a6,.ints 6 .i64 a7,.fzs 6 Zs1 a8]))],1⟩) hl (To.mk' [] 0 hε rfl zL zL) (fun s1 zs1 NNs1 hz hnexts1 houts1 => ?_)
      clear hl hT
      have hT:=hz;clear hz
      refine rSeq (zA hX ?_)
      refine zCond rfl rfl (fun hc => ?_) (fun hc => ?_)
      .replace hT:=sT hc hT
       refine rSkip (rThen (rSeq (rBlock ?_)))
       let x8:=(bif(bif(decide ((a6.getD (s1).toNat 0)<(-32)))then true else(decide ((31:Int)<(a6.getD (s1).toNat 0))))then true else(bif(decide ((2:Int)<a4))then(decide ((a6.getD (s1).toNat 0)≠0))else false))
       replace hT:=sIf hT;obtain⟨⟨o1,o2,o3,o4,o5,o6,o7,o8,o9,o10⟩,hT⟩:=hT
       refine rSeq (rRegC md0 hX rfl rfl rfl (by(repeat' first|exact True.intro|with_reducible assumption|(with_reducible apply And.intro)|intro _)<;>first|assumption|exact o4 (by assumption)|exact o5 (by assumption)|exact o6 (by assumption)|exact o7 (by assumption)|exact o8 (by assumption)|exact o9 (by assumption)|exact o10 (by assumption) (by assumption)|exact rfl|omega|exact Nat.le_of_ble_eq_true rfl|exact selF (by assumption)|exact selT (by assumption)|exact And.intro rfl rfl|exact And.intro (by assumption) rfl|exact And.intro (by omega) rfl|(simp only[inK]at *;omega)|(simp_all [sel]<;>fail)|fail) ?_)
       refine rThen ?_
       refine zCond rfl rfl (fun hc => ?_) (fun hc => ?_)
       .replace hT:=sT hc hT
        refine zA hX ?_
        refine rRet (rInRet (rThenRet (rThenRet ?_)))
        exact zTo [] 0 hε (hxs10 _ (houts1 _ (sJ hT).symm))
       .replace hT:=sF hc hT
        refine rSkip (rInNormal (rThen ?_))
        replace hT:=sIf hT;obtain⟨o1,hT⟩:=hT
        refine zReg md0 hX rfl rfl rfl ?_
        exact hnexts1 _ (sJ hT).symm _ (To.mk' [] 0 hε rfl zL zL)
      .replace hT:=sF hc hT
       refine rExit (rThenExit (rThenExit ?_))
       exact zTo [] 0 hε (hxs11 _ (houts1 _ (sJ hT).symm))
     .refine zCond rfl rfl (fun hc => ?_) (fun hc => ?_)
      .replace hT:=sT hc hT
       let c4:=(ref20_Row N a5)
       replace hT:=sIf hT;obtain⟨o1,hT⟩:=hT
       refine zA hX ?_
       refine zCond rfl rfl (fun hc => ?_) (fun hc => ?_)
       .replace hT:=sT hc hT
        refine zA hX ?_
        refine rRet (rThenRet ?_)
        have hy:=sJ hT;subst hy
        exact zEnd0 hX rfl
       .replace hT:=sF hc hT
        refine rSkip ?_
        exact zTo [] 0 hε (hjk1 _ hT)
      .replace hT:=sF hc hT
       refine zA hX ?_
       refine zCond rfl rfl (fun hc => ?_) (fun hc => ?_)
       .replace hT:=sT hc hT
        refine zA hX ?_
        refine rRet (rThenRet ?_)
        have hy:=sJ hT;subst hy
        exact zEnd0 hX rfl
       .replace hT:=sF hc hT
        refine rSkip ?_
        exact zTo [] 0 hε (hjk1 _ hT)
 .cases h
def ref16_Size(N:Nat)(a1:Int):Option (List Int):=
 let x1:=[(List.replicate 4 0),(((((List.replicate 4 0).set 0 128).set 1 96).set 2 6).set 3 1),(((((List.replicate 4 0).set 0 176).set 1 144).set 2 9).set 3 1),(((((List.replicate 4 0).set 0 352).set 1 288).set 2 18).set 3 1),(((((List.replicate 4 0).set 0 704).set 1 576).set 2 18).set 3 2),(((((List.replicate 4 0).set 0 1408).set 1 1152).set 2 18).set 3 4),(((((List.replicate 4 0).set 0 32).set 1 32).set 2 2).set 3 1)]
 bif(bif(decide (a1<0))then true else(decide ((7:Int)<=a1)))then
  some (List.replicate 4 0)
 else
  if(0:Int)<=a1/\a1<7/\(a1).toNat<x1.length then
   some (x1.getD (a1).toNat (List.replicate 4 (0:Int)))
  else none
def sp_ref16_Size(N:Nat):X.Spec:=fun args lk=>match args with
 | [.v (.c (.int .i64 a1))]=>some ⟨(ref16_Size N a1).isSome=true,.v (.agg [.ints 4 .i64 ((ref16_Size N a1).getD default)]),[],[]⟩
 | _=>none
theorem ok_ref16_Size(N:Nat):FnOK Tryz.prog gt0 26 (sp_ref16_Size N):=by
 refine fnOK_handed Tryz.func26 rfl (by kernel_rfl) tt_ok (ktNil) ?_
 intro args lk r h hp
 unfold sp_ref16_Size at h
 split at h
 .rename_i a1
  cases h
  obtain⟨x,hT⟩:=sX hp;clear hp
  simp only[hT,Option.getD_some]
  refine hand0 rfl rfl fun w0 M ε0 hX=>rCount fun hε => ?_
  unfold ref16_Size at hT
  refine zA hX ?_
  refine rSeq (zReg md0 hX rfl rfl rfl ?_)
  refine rLstQ 1 (.arr 4 .i64) [(List.replicate 4 0),(((((List.replicate 4 0).set 0 128).set 1 96).set 2 6).set 3 1),(((((List.replicate 4 0).set 0 176).set 1 144).set 2 9).set 3 1),(((((List.replicate 4 0).set 0 352).set 1 288).set 2 18).set 3 1),(((((List.replicate 4 0).set 0 704).set 1 576).set 2 18).set 3 2),(((((List.replicate 4 0).set 0 1408).set 1 1152).set 2 18).set 3 4),(((((List.replicate 4 0).set 0 32).set 1 32).set 2 2).set 3 1)] rfl rfl rfl ?_
  refine rThen (rSeq ?_)
  let x1:=[(List.replicate 4 0),(((((List.replicate 4 0).set 0 128).set 1 96).set 2 6).set 3 1),(((((List.replicate 4 0).set 0 176).set 1 144).set 2 9).set 3 1),(((((List.replicate 4 0).set 0 352).set 1 288).set 2 18).set 3 1),(((((List.replicate 4 0).set 0 704).set 1 576).set 2 18).set 3 2),(((((List.replicate 4 0).set 0 1408).set 1 1152).set 2 18).set 3 4),(((((List.replicate 4 0).set 0 32).set 1 32).set 2 2).set 3 1)]
  refine zA hX ?_
  refine zCond rfl rfl (fun hc => ?_) (fun hc => ?_)
  .replace hT:=sT hc hT
   refine zA hX ?_
   refine rRet (rThenRet ?_)
   have hy:=sJ hT;subst hy
   exact zEnd0 hX rfl
  .replace hT:=sF hc hT
   refine rSkip (rThen ?_)
   replace hT:=sIf hT;obtain⟨⟨o1,o2,o3⟩,hT⟩:=hT
   refine zA hX ?_
   refine rRet ?_
   have hy:=sJ hT;subst hy
   exact zEnd0 hX rfl
 .cases h
def ref17_Wide(N:Nat)(a1:Int)(a2:Int):Option Int:=
 bif(decide (a2=0))then
  let c1:=(ref16_Size N a1)
  if c1.isSome=true then
   some ((c1.getD default).getD 0 0)
  else none
 else
  let c2:=(ref16_Size N a1)
  if c2.isSome=true/\(0:Int)<=((c2.getD default).getD 0 0)then
   some (((c2.getD default).getD 0 0)/2)
  else none
def sp_ref17_Wide(N:Nat):X.Spec:=fun args lk=>match args with
 | [.v (.c (.int .i64 a1)),.v (.c (.int .i64 a2))]=>some ⟨(ref17_Wide N a1 a2).isSome=true,.v (.c (.int .i64 ((ref17_Wide N a1 a2).getD default))),[],[]⟩
 | _=>none
theorem ok_ref17_Wide(N:Nat):FnOK Tryz.prog gt0 27 (sp_ref17_Wide N):=by
 refine fnOK_handed Tryz.func27 rfl (by kernel_rfl) tt_ok (ktCons (ok_ref16_Size N) (ktNil)) ?_
 intro args lk r h hp
 unfold sp_ref17_Wide at h
 split at h
 .rename_i a1 a2
  cases h
  obtain⟨x,hT⟩:=sX hp;clear hp
  simp only[hT,Option.getD_some]
  refine hand0 rfl rfl fun w0 M ε0 hX=>rCount fun hε => ?_
  unfold ref17_Wide at hT
  refine zA hX ?_
  refine rSeq (zA hX ?_)
  refine zCond rfl rfl (fun hc => ?_) (fun hc => ?_)
  .replace hT:=sT hc hT
   let c1:=(ref16_Size N a1)
   replace hT:=sIf hT;obtain⟨o1,hT⟩:=hT
   refine zA hX ?_
   refine rRet (rThenRet ?_)
   have hy:=sJ hT;subst hy
   exact zEnd0 hX rfl
  .replace hT:=sF hc hT
   refine rSkip (rThen ?_)
   let c2:=(ref16_Size N a1)
   replace hT:=sIf hT;obtain⟨⟨o1,o2⟩,hT⟩:=hT
   refine zA hX ?_
   refine rRet ?_
   have hy:=sJ hT;subst hy
   exact zEnd0 hX rfl
 .cases h
def ref17_High(N:Nat)(a1:Int)(a2:Int):Option Int:=
 bif(decide (a2=0))then
  let c1:=(ref16_Size N a1)
  if c1.isSome=true then
   some ((c1.getD default).getD 1 0)
  else none
 else
  let c2:=(ref16_Size N a1)
  if c2.isSome=true/\(0:Int)<=((c2.getD default).getD 1 0)then
   some (((c2.getD default).getD 1 0)/2)
  else none
def sp_ref17_High(N:Nat):X.Spec:=fun args lk=>match args with
 | [.v (.c (.int .i64 a1)),.v (.c (.int .i64 a2))]=>some ⟨(ref17_High N a1 a2).isSome=true,.v (.c (.int .i64 ((ref17_High N a1 a2).getD default))),[],[]⟩
 | _=>none
theorem ok_ref17_High(N:Nat):FnOK Tryz.prog gt0 28 (sp_ref17_High N):=by
 refine fnOK_handed Tryz.func28 rfl (by kernel_rfl) tt_ok (ktCons (ok_ref16_Size N) (ktNil)) ?_
 intro args lk r h hp
 unfold sp_ref17_High at h
 split at h
 .rename_i a1 a2
  cases h
  obtain⟨x,hT⟩:=sX hp;clear hp
  simp only[hT,Option.getD_some]
  refine hand0 rfl rfl fun w0 M ε0 hX=>rCount fun hε => ?_
  unfold ref17_High at hT
  refine zA hX ?_
  refine rSeq (zA hX ?_)
  refine zCond rfl rfl (fun hc => ?_) (fun hc => ?_)
  .replace hT:=sT hc hT
   let c1:=(ref16_Size N a1)
   replace hT:=sIf hT;obtain⟨o1,hT⟩:=hT
   refine zA hX ?_
   refine rRet (rThenRet ?_)
   have hy:=sJ hT;subst hy
   exact zEnd0 hX rfl
  .replace hT:=sF hc hT
   refine rSkip (rThen ?_)
   let c2:=(ref16_Size N a1)
   replace hT:=sIf hT;obtain⟨⟨o1,o2⟩,hT⟩:=hT
   refine zA hX ?_
   refine rRet ?_
   have hy:=sJ hT;subst hy
   exact zEnd0 hX rfl
 .cases h
def ref17_Right_b1(N:Nat)(a1:Int) (a2:(List (List Int))) (s1:Int):Option (Int⊕(Unit⊕Unit)):=
 bif(decide (s1<3))then
  let c2:=(ref17_Wide N a1 s1)
  let c3:=(ref17_High N a1 s1)
  let x1:=(decide (((a2.getD (s1).toNat []).length:Int)≠((c2.getD default)*(c3.getD default))))
  if(0:Int)<=s1/\s1<3/\(s1).toNat<3/\c2.isSome=true/\c3.isSome=true/\inK .i64 ((c2.getD default)*(c3.getD default))then
   bif x1 then
    some (.inr (Sum.inl ()))
   else
    if inK .i64 (s1+1)then
     some (.inl (s1+1))
    else none
  else none
 else
  some (.inr (Sum.inr ()))
def ref17_Right(N:Nat)(a1:Int) (a2:(List (List Int))):Option Bool:=
 let c1:=(ref16_Size N a1)
 if c1.isSome=true then
  bif(decide (((c1.getD default).getD 0 0)=0))then
   some false
  else
   (iter (ref17_Right_b1 N a1 a2) N 0).bind fun w1=>
    (Sum.elim (fun v1=>
     some false
    )
     (fun v2=>
      some true
     )
    ) w1
 else none
def sp_ref17_Right(N:Nat):X.Spec:=fun args lk=>match args with
 | [.v (.agg [.cs [.int .i64 a1],.fzs 3 (.int .u8) a2])]=>some ⟨(ref17_Right N a1 a2).isSome=true,.v (.c (.bool ((ref17_Right N a1 a2).getD default))),[],[]⟩
 | _=>none
theorem ok_ref17_Right(N:Nat):FnOK Tryz.prog gt0 9 (sp_ref17_Right N):=by
 refine fnOK_handed Tryz.func9 rfl (by kernel_rfl) tt_ok (ktCons (ok_ref17_High N) (ktCons (ok_ref17_Wide N) (ktCons (ok_ref16_Size N) (ktNil)))) ?_
 intro args lk r h hp
 unfold sp_ref17_Right at h
 split at h
 .rename_i a1 a2
  change (List (List Int))at a2
  cases h
  obtain⟨x,hT⟩:=sX hp;clear hp
  simp only[hT,Option.getD_some]
  refine hand0 rfl rfl fun w0 M ε0 hX=>rCount fun hε => ?_
  unfold ref17_Right at hT
  refine zA hX ?_
  refine rSeq ?_
  let c1:=(ref16_Size N a1)
  replace hT:=sIf hT;obtain⟨o1,hT⟩:=hT
  refine zA hX ?_
  refine zCond rfl rfl (fun hc => ?_) (fun hc => ?_)
  .replace hT:=sT hc hT
   refine zA hX ?_
   refine rRet (rThenRet ?_)
   have hy:=sJ hT;subst hy
   exact zEnd0 hX rfl
  .replace hT:=sF hc hT
   refine rSkip (rThen (rSeq (zA hX ?_)))
   refine rBlock ?_
   replace hT:=sBind hT;obtain⟨w1,hl,hT⟩:=hT
   refine rJoinA (fun v1=>(Sum.inl v1)=w1) (fun v1=>⟨[(2,.v (.c (.bool false)))],[],1⟩) .ret (fun v1 hv => ?_) (fun hxs10 => ?_)
   .subst hv;clear hl;replace hT:=(sElimL hT)
    refine rInRet (rThenRet ?_)
    have hy:=sJ hT;subst hy
    exact zEnd0 hX rfl
   refine rJoinA (fun v2=>(Sum.inr v2)=w1) (fun v2=>⟨[(2,.v (.c (.bool false)))],[],1⟩) (.exit 0) (fun v2 hv => ?_) (fun hxs11 => ?_)
   .subst hv;clear hl;replace hT:=(sElimR hT)
    refine rInHit (rThen (zA hX ?_))
    refine rRet ?_
    have hy:=sJ hT;subst hy
    exact zEnd0 hX rfl
   refine rLoopM (ref17_Right_b1 N a1 a2) (fun s1=>⟨[(1,.v (.c (.ptr 0 0 0 0 0 0))),(2,.v (.c (.bool false))),(3,.v (.c (.int .i64 s1)))],[(0,.mem true 25 none (.flat [.cs [.int .i64 a1],.fzs 3 (.int .u8) a2]))],1⟩) hl (To.mk' [] 0 hε rfl zL zL) (fun s1 zs1 NNs1 hz hnexts1 houts1 => ?_)
   clear hl hT
   have hT:=hz;clear hz
   refine rSeq (zA hX ?_)
   refine zCond rfl rfl (fun hc => ?_) (fun hc => ?_)
   .replace hT:=sT hc hT
    refine rSkip (rThen (rSeq (rBlock ?_)))
    let c2:=(ref17_Wide N a1 s1)
    let c3:=(ref17_High N a1 s1)
    let x1:=(decide (((a2.getD (s1).toNat []).length:Int)≠((c2.getD default)*(c3.getD default))))
    replace hT:=sIf hT;obtain⟨⟨o1,o2,o3,o4,o5,o6⟩,hT⟩:=hT
    refine rSeq (zDraw md0 0 [] hX mixed rfl rfl rfl rfl rfl ?_)
    refine rThen ?_
    refine zCond rfl rfl (fun hc => ?_) (fun hc => ?_)
    .replace hT:=sT hc hT
     refine zA hX ?_
     refine rRet (rInRet (rThenRet (rThenRet ?_)))
     exact zTo [] 0 hε (hxs10 _ (houts1 _ (sJ hT).symm))
    .replace hT:=sF hc hT
     refine rSkip (rInNormal (rThen ?_))
     replace hT:=sIf hT;obtain⟨o1,hT⟩:=hT
     refine zReg md0 hX rfl rfl rfl ?_
     exact hnexts1 _ (sJ hT).symm _ (To.mk' [] 0 hε rfl zL zL)
   .replace hT:=sF hc hT
    refine rExit (rThenExit (rThenExit ?_))
    exact zTo [] 0 hε (hxs11 _ (houts1 _ (sJ hT).symm))
 .cases h
def ref16_Many(N:Nat)(a1:Int):Option Int:=
 let c1:=(ref16_Size N a1)
 let c2:=(ref16_Size N a1)
 if c1.isSome=true/\(0:Int)<=((c1.getD default).getD 0 0)/\c2.isSome=true/\(0:Int)<=((c2.getD default).getD 1 0)/\inK .i64 ((((c1.getD default).getD 0 0)/16)*(((c2.getD default).getD 1 0)/16))then
  some ((((c1.getD default).getD 0 0)/16)*(((c2.getD default).getD 1 0)/16))
 else none
def sp_ref16_Many(N:Nat):X.Spec:=fun args lk=>match args with
 | [.v (.c (.int .i64 a1))]=>some ⟨(ref16_Many N a1).isSome=true,.v (.c (.int .i64 ((ref16_Many N a1).getD default))),[],[]⟩
 | _=>none
theorem ok_ref16_Many(N:Nat):FnOK Tryz.prog gt0 11 (sp_ref16_Many N):=by
 refine fnOK_handed Tryz.func11 rfl (by kernel_rfl) tt_ok (ktCons (ok_ref16_Size N) (ktNil)) ?_
 intro args lk r h hp
 unfold sp_ref16_Many at h
 split at h
 .rename_i a1
  cases h
  obtain⟨x,hT⟩:=sX hp;clear hp
  simp only[hT,Option.getD_some]
  refine hand0 rfl rfl fun w0 M ε0 hX=>rCount fun hε => ?_
  unfold ref16_Many at hT
  refine zA hX ?_
  let c1:=(ref16_Size N a1)
  let c2:=(ref16_Size N a1)
  replace hT:=sIf hT;obtain⟨⟨o1,o2,o3,o4,o5⟩,hT⟩:=hT
  refine zA hX ?_
  refine rRet ?_
  have hy:=sJ hT;subst hy
  exact zEnd0 hX rfl
 .cases h
def ref34_Right_b2(N:Nat) (a2:(List (List Int))) (s1:Int) (s2:Int):Option (Int⊕(Unit⊕(Int×Int×Bool))):=
 if(0:Int)<=s1/\s1<3/\(s1).toNat<3 then
  bif(decide (s2<((a2.getD (s1).toNat []).length:Int)))then
   let x2:=(bif(decide ((255:Int)<((a2.getD (s1).toNat []).getD (s2).toNat 0)))then true else(decide (((a2.getD (s1).toNat []).getD (s2).toNat 0)<(-255))))
   if(0:Int)<=s1/\s1<3/\(s1).toNat<3/\(0:Int)<=s2/\s2<((a2.getD (s1).toNat []).length:Int)/\((!(decide ((255:Int)<((a2.getD (s1).toNat []).getD (s2).toNat 0))))=true->(0:Int)<=s1)/\((!(decide ((255:Int)<((a2.getD (s1).toNat []).getD (s2).toNat 0))))=true->s1<3)/\((!(decide ((255:Int)<((a2.getD (s1).toNat []).getD (s2).toNat 0))))=true->(s1).toNat<3)/\((!(decide ((255:Int)<((a2.getD (s1).toNat []).getD (s2).toNat 0))))=true->(0:Int)<=s2)/\((!(decide ((255:Int)<((a2.getD (s1).toNat []).getD (s2).toNat 0))))=true->s2<((a2.getD (s1).toNat []).length:Int))then
    bif x2 then
     some (.inr (Sum.inl ()))
    else
     if inK .i64 (s2+1)then
      some (.inl (s2+1))
     else none
   else none
  else
   some (.inr (Sum.inr (s2,s2,(decide (s2<((a2.getD (s1).toNat []).length:Int))))))
 else none
def ref34_Right_b1(N:Nat)(a1:Int) (a2:(List (List Int))) (s1:Int):Option (Int⊕(Unit⊕Unit)):=
 bif(decide (s1<3))then
  let c2:=(ref17_Wide N a1 s1)
  let c3:=(ref17_High N a1 s1)
  let x1:=(decide (((a2.getD (s1).toNat []).length:Int)≠((c2.getD default)*(c3.getD default))))
  if(0:Int)<=s1/\s1<3/\(s1).toNat<3/\c2.isSome=true/\c3.isSome=true/\inK .i64 ((c2.getD default)*(c3.getD default))then
   bif x1 then
    some (.inr (Sum.inl ()))
   else
    (iter (ref34_Right_b2 N a2 s1) N 0).bind fun w2=>
     (Sum.elim (fun v3=>
      some (.inr (Sum.inl ()))
     )
      (fun v4=>
       if inK .i64 (s1+1)then
        some (.inl (s1+1))
       else none
      )
     ) w2
  else none
 else
  some (.inr (Sum.inr ()))
def ref34_Right(N:Nat)(a1:Int) (a2:(List (List Int))):Option Bool:=
 let c1:=(ref16_Many N a1)
 if c1.isSome=true then
  bif(decide ((c1.getD default)=0))then
   some false
  else
   (iter (ref34_Right_b1 N a1 a2) N 0).bind fun w1=>
    (Sum.elim (fun v1=>
     some false
    )
     (fun v2=>
      some true
     )
    ) w1
 else none
def sp_ref34_Right(N:Nat):X.Spec:=fun args lk=>match args with
 | [.v (.agg [.cs [.int .i64 a1],.fzs 3 (.int .i64) a2])]=>some ⟨(ref34_Right N a1 a2).isSome=true,.v (.c (.bool ((ref34_Right N a1 a2).getD default))),[],[]⟩
 | _=>none
theorem ok_ref34_Right(N:Nat):FnOK Tryz.prog gt0 10 (sp_ref34_Right N):=by
 refine fnOK_handed Tryz.func10 rfl (by kernel_rfl) tt_ok (ktCons (ok_ref17_High N) (ktCons (ok_ref17_Wide N) (ktCons (ok_ref16_Many N) (ktNil)))) ?_
 intro args lk r h hp
 unfold sp_ref34_Right at h
 split at h
 .rename_i a1 a2
  change (List (List Int))at a2
  cases h
  obtain⟨x,hT⟩:=sX hp;clear hp
  simp only[hT,Option.getD_some]
  refine hand0 rfl rfl fun w0 M ε0 hX=>rCount fun hε => ?_
  unfold ref34_Right at hT
  refine zA hX ?_
  refine rSeq ?_
  let c1:=(ref16_Many N a1)
  replace hT:=sIf hT;obtain⟨o1,hT⟩:=hT
  refine zA hX ?_
  refine zCond rfl rfl (fun hc => ?_) (fun hc => ?_)
  .replace hT:=sT hc hT
   refine zA hX ?_
   refine rRet (rThenRet ?_)
   have hy:=sJ hT;subst hy
   exact zEnd0 hX rfl
  .replace hT:=sF hc hT
   refine rSkip (rThen (rSeq (zA hX ?_)))
   refine rBlock ?_
   replace hT:=sBind hT;obtain⟨w1,hl,hT⟩:=hT
   refine rJoinA (fun v1=>(Sum.inl v1)=w1) (fun v1=>⟨[(2,.v (.c (.bool false)))],[],1⟩) .ret (fun v1 hv => ?_) (fun hxs10 => ?_)
   .subst hv;clear hl;replace hT:=(sElimL hT)
    refine rInRet (rThenRet ?_)
    have hy:=sJ hT;subst hy
    exact zEnd0 hX rfl
   refine rJoinA (fun v2=>(Sum.inr v2)=w1) (fun v2=>⟨[(2,.v (.c (.bool false)))],[],1⟩) (.exit 0) (fun v2 hv => ?_) (fun hxs11 => ?_)
   .subst hv;clear hl;replace hT:=(sElimR hT)
    refine rInHit (rThen (zA hX ?_))
    refine rRet ?_
    have hy:=sJ hT;subst hy
    exact zEnd0 hX rfl
   refine rLoopM (ref34_Right_b1 N a1 a2) (fun s1=>⟨[(1,.v (.c (.ptr 0 0 0 0 0 0))),(2,.v (.c (.bool false))),(3,.v (.c (.int .i64 s1)))],[(0,.mem true 29 none (.flat [.cs [.int .i64 a1],.fzs 3 (.int .i64) a2]))],1⟩) hl (To.mk' [] 0 hε rfl zL zL) (fun s1 zs1 NNs1 hz hnexts1 houts1 => ?_)
   clear hl hT
   have hT:=hz;clear hz
   refine rSeq (zA hX ?_)
   refine zCond rfl rfl (fun hc => ?_) (fun hc => ?_)
   .replace hT:=sT hc hT
    refine rSkip (rThen (rSeq (rBlock (rSeq ?_))))
    let c2:=(ref17_Wide N a1 s1)
    let c3:=(ref17_High N a1 s1)
    let x1:=(decide (((a2.getD (s1).toNat []).length:Int)≠((c2.getD default)*(c3.getD default))))
    replace hT:=sIf hT;obtain⟨⟨o1,o2,o3,o4,o5,o6⟩,hT⟩:=hT
    refine rSeq (zDraw md0 0 [] hX mixed rfl rfl rfl rfl rfl ?_)
    refine rThen ?_
    refine zCond rfl rfl (fun hc => ?_) (fun hc => ?_)
    .replace hT:=sT hc hT
     refine zA hX ?_
     refine rRet (rThenRet (rInRet (rThenRet (rThenRet ?_))))
     exact zTo [] 0 hε (hxs10 _ (houts1 _ (sJ hT).symm))
    .replace hT:=sF hc hT
     refine rSkip (rThen (zA hX ?_))
     refine rBlock ?_
     replace hT:=sBind hT;obtain⟨w2,hl,hT⟩:=hT
     refine rJoinA (fun v3=>(Sum.inl v3)=w2) (fun v3=>⟨[(2,.v (.c (.bool false)))],[],1⟩) .ret (fun v3 hv => ?_) (fun hxs20 => ?_)
     .subst hv;clear hl;replace hT:=(sElimL hT)
      refine rInRet (rInRet (rThenRet (rThenRet ?_)))
      exact zTo [] 0 hε (hxs10 _ (houts1 _ (sJ hT).symm))
     refine rJoinA (fun v4=>(Sum.inr v4)=w2) (fun v4=>⟨[(1,.v (.c (.ptr 0 0 0 0 0 0))),(2,.v (.c (.bool false))),(3,.v (.c (.int .i64 s1))),(4,.v (.c (.int .i64 v4.1))),(9,.v (.c (.int .i64 s1))),(10,.v (.c (.bool (decide (s1<3))))),(13,.v (.c (.int .i64 s1))),(14,.v (.c (.ptr 0 0 0 1 0 0))),(15,.v (.c (.ptr 0 0 0 1 1 (s1).toNat))),(16,.v (.c (.fz (.int .i64) (a2.getD (s1).toNat [])))),(17,.v (.c (.int .i64 ((a2.getD (s1).toNat []).length:Int)))),(18,.v (.c (.ptr 0 0 0 0 0 0))),(19,.v (.c (.int .i64 a1))),(20,.v (.c (.int .i64 s1))),(21,.v (.c (.int .i64 (c2.getD default)))),(22,.v (.c (.ptr 0 0 0 0 0 0))),(23,.v (.c (.int .i64 a1))),(24,.v (.c (.int .i64 s1))),(25,.v (.c (.int .i64 (c3.getD default)))),(26,.v (.c (.int .i64 ((c2.getD default)*(c3.getD default))))),(27,.v (.c (.bool x1))),(28,.v (.c (.int .i64 v4.2.1))),(29,.v (.c (.int .i64 s1))),(30,.v (.c (.ptr 0 0 0 1 0 0))),(31,.v (.c (.ptr 0 0 0 1 1 (s1).toNat))),(32,.v (.c (.fz (.int .i64) (a2.getD (s1).toNat [])))),(33,.v (.c (.int .i64 ((a2.getD (s1).toNat []).length:Int)))),(34,.v (.c (.bool v4.2.2)))],[(0,.mem true 29 none (.flat [.cs [.int .i64 a1],.fzs 3 (.int .i64) a2]))],1⟩) (.exit 2) (fun v4 hv => ?_) (fun hxs21 => ?_)
     .subst hv;clear hl;replace hT:=(sElimR hT)
      refine rInHit (rInNormal (rThen ?_))
      replace hT:=sIf hT;obtain⟨o1,hT⟩:=hT
      refine zReg md0 hX rfl rfl rfl ?_
      exact hnexts1 _ (sJ hT).symm _ (To.mk' [] 0 hε rfl zL zL)
     refine rLoopM (ref34_Right_b2 N a2 s1) (fun s2=>⟨[(1,.v (.c (.ptr 0 0 0 0 0 0))),(2,.v (.c (.bool false))),(3,.v (.c (.int .i64 s1))),(4,.v (.c (.int .i64 s2))),(9,.v (.c (.int .i64 s1))),(10,.v (.c (.bool (decide (s1<3))))),(13,.v (.c (.int .i64 s1))),(14,.v (.c (.ptr 0 0 0 1 0 0))),(15,.v (.c (.ptr 0 0 0 1 1 (s1).toNat))),(16,.v (.c (.fz (.int .i64) (a2.getD (s1).toNat [])))),(17,.v (.c (.int .i64 ((a2.getD (s1).toNat []).length:Int)))),(18,.v (.c (.ptr 0 0 0 0 0 0))),(19,.v (.c (.int .i64 a1))),(20,.v (.c (.int .i64 s1))),(21,.v (.c (.int .i64 (c2.getD default)))),(22,.v (.c (.ptr 0 0 0 0 0 0))),(23,.v (.c (.int .i64 a1))),(24,.v (.c (.int .i64 s1))),(25,.v (.c (.int .i64 (c3.getD default)))),(26,.v (.c (.int .i64 ((c2.getD default)*(c3.getD default))))),(27,.v (.c (.bool x1)))],[(0,.mem true 29 none (.flat [.cs [.int .i64 a1],.fzs 3 (.int .i64) a2]))],1⟩) hl (To.mk' [] 0 hε rfl zL zL) (fun s2 zs2 NNs2 hz hnexts2 houts2 => ?_)
     clear hl hT
     have hT:=hz;clear hz
     refine rSeq ?_
     replace hT:=sIf hT;obtain⟨⟨o1,o2,o3⟩,hT⟩:=hT
     refine zA hX ?_
     refine zCond rfl rfl (fun hc => ?_) (fun hc => ?_)
     .replace hT:=sT hc hT
      refine rSkip (rThen (rSeq (rBlock ?_)))
      let x2:=(bif(decide ((255:Int)<((a2.getD (s1).toNat []).getD (s2).toNat 0)))then true else(decide (((a2.getD (s1).toNat []).getD (s2).toNat 0)<(-255))))
      replace hT:=sIf hT;obtain⟨⟨o1,o2,o3,o4,o5,o6,o7,o8,o9,o10⟩,hT⟩:=hT
      refine rSeq (rRegC md0 hX rfl rfl rfl zO ?_)
      refine rThen ?_
      refine zCond rfl rfl (fun hc => ?_) (fun hc => ?_)
      .replace hT:=sT hc hT
       refine zA hX ?_
       refine rRet (rInRet (rThenRet (rThenRet ?_)))
       exact zTo [] 0 hε (hxs20 _ (houts2 _ (sJ hT).symm))
      .replace hT:=sF hc hT
       refine rSkip (rInNormal (rThen ?_))
       replace hT:=sIf hT;obtain⟨o1,hT⟩:=hT
       refine zReg md0 hX rfl rfl rfl ?_
       exact hnexts2 _ (sJ hT).symm _ (To.mk' [] 0 hε rfl zL zL)
     .replace hT:=sF hc hT
      refine rExit (rThenExit (rThenExit ?_))
      exact zTo [] 0 hε (hxs21 _ (houts2 _ (sJ hT).symm))
   .replace hT:=sF hc hT
    refine rExit (rThenExit (rThenExit ?_))
    exact zTo [] 0 hε (hxs11 _ (houts1 _ (sJ hT).symm))
 .cases h
def ref16_Across(N:Nat)(a1:Int):Option Int:=
 let c1:=(ref16_Size N a1)
 if c1.isSome=true/\(0:Int)<=((c1.getD default).getD 0 0)then
  some (((c1.getD default).getD 0 0)/16)
 else none
def sp_ref16_Across(N:Nat):X.Spec:=fun args lk=>match args with
 | [.v (.c (.int .i64 a1))]=>some ⟨(ref16_Across N a1).isSome=true,.v (.c (.int .i64 ((ref16_Across N a1).getD default))),[],[]⟩
 | _=>none
theorem ok_ref16_Across(N:Nat):FnOK Tryz.prog gt0 29 (sp_ref16_Across N):=by
 refine fnOK_handed Tryz.func29 rfl (by kernel_rfl) tt_ok (ktCons (ok_ref16_Size N) (ktNil)) ?_
 intro args lk r h hp
 unfold sp_ref16_Across at h
 split at h
 .rename_i a1
  cases h
  obtain⟨x,hT⟩:=sX hp;clear hp
  simp only[hT,Option.getD_some]
  refine hand0 rfl rfl fun w0 M ε0 hX=>rCount fun hε => ?_
  unfold ref16_Across at hT
  refine zA hX ?_
  let c1:=(ref16_Size N a1)
  replace hT:=sIf hT;obtain⟨⟨o1,o2⟩,hT⟩:=hT
  refine zA hX ?_
  refine rRet ?_
  have hy:=sJ hT;subst hy
  exact zEnd0 hX rfl
 .cases h
def ref18_inside(N:Nat)(a1:Int)(a2:Int):Option Bool:=
 if inK .i64 (a1+30)then
  let x1:=(bif(decide ((0:Int)<=a1))then(decide ((((a1+30)/2)+((a1+30)%2))<a2))else false)
  if((decide ((0:Int)<=a1))=true->(0:Int)<=(a1+30))/\((decide ((0:Int)<=a1))=true->inK .i64 (((a1+30)/2)+((a1+30)%2)))then
   some x1
  else none
 else none
def sp_ref18_inside(N:Nat):X.Spec:=fun args lk=>match args with
 | [.v (.c (.int .i64 a1)),.v (.c (.int .i64 a2))]=>some ⟨(ref18_inside N a1 a2).isSome=true,.v (.c (.bool ((ref18_inside N a1 a2).getD default))),[],[]⟩
 | _=>none
theorem ok_ref18_inside(N:Nat):FnOK Tryz.prog gt0 30 (sp_ref18_inside N):=by
 refine fnOK_handed Tryz.func30 rfl (by kernel_rfl) tt_ok (ktNil) ?_
 intro args lk r h hp
 unfold sp_ref18_inside at h
 split at h
 .rename_i a1 a2
  cases h
  obtain⟨x,hT⟩:=sX hp;clear hp
  simp only[hT,Option.getD_some]
  refine hand0 rfl rfl fun w0 M ε0 hX=>rCount fun hε => ?_
  unfold ref18_inside at hT
  refine zA hX ?_
  replace hT:=sIf hT;obtain⟨o1,hT⟩:=hT
  refine zA hX ?_
  let x1:=(bif(decide ((0:Int)<=a1))then(decide ((((a1+30)/2)+((a1+30)%2))<a2))else false)
  replace hT:=sIf hT;obtain⟨⟨o1,o2⟩,hT⟩:=hT
  refine rSeq (rRegC md0 hX rfl rfl rfl zO ?_)
  refine rThen (rRet ?_)
  have hy:=sJ hT;subst hy
  exact zEnd0 hX rfl
 .cases h
def ref18_May_b1(N:Nat)(a3:(List Int))(s1:Int):Option (Int⊕(Unit⊕Unit)):=
 bif(decide (s1<2))then
  let x1:=(bif(decide ((a3.getD (s1).toNat 0)<(-32)))then true else(decide ((31:Int)<(a3.getD (s1).toNat 0))))
  if(0:Int)<=s1/\s1<2/\(s1).toNat<2/\((!(decide ((a3.getD (s1).toNat 0)<(-32))))=true->(0:Int)<=s1)/\((!(decide ((a3.getD (s1).toNat 0)<(-32))))=true->s1<2)/\((!(decide ((a3.getD (s1).toNat 0)<(-32))))=true->(s1).toNat<2)then
   bif x1 then
    some (.inr (Sum.inl ()))
   else
    if inK .i64 (s1+1)then
     some (.inl (s1+1))
    else none
  else none
 else
  some (.inr (Sum.inr ()))
def ref18_May(N:Nat)(a1:Int)(a2:Int)(a3:(List Int)):Option Bool:=
 let c1:=(ref16_Many N a1)
 if((!(decide (a2<0)))=true->c1.isSome=true)then
  bif(bif(decide (a2<0))then true else(decide ((c1.getD default)<=a2)))then
   some false
  else
   let c2:=(ref16_Across N a1)
   if c2.isSome=true/\(0:Int)<=a2/\(0:Int)<(c2.getD default)then
    let c3:=(ref16_Across N a1)
    if c3.isSome=true/\(0:Int)<=a2/\(0:Int)<(c3.getD default)then
     (iter (ref18_May_b1 N a3) N 0).bind fun w1=>
      (Sum.elim (fun v1=>
       some false
      )
       (fun v2=>
        let c4:=(ref16_Size N a1)
        let c5:=(ref18_inside N (((32:Int)*(a2%(c2.getD default)))+(a3.getD 0 0)) ((c4.getD default).getD 0 0))
        let c6:=(ref16_Size N a1)
        let c7:=(ref18_inside N (((32:Int)*(a2/(c3.getD default)))+(a3.getD 1 0)) ((c6.getD default).getD 1 0))
        if inK .i64 ((32:Int)*(a2%(c2.getD default)))/\inK .i64 (((32:Int)*(a2%(c2.getD default)))+(a3.getD 0 0))/\c4.isSome=true/\c5.isSome=true/\((c5.getD default)=true->inK .i64 ((32:Int)*(a2/(c3.getD default))))/\((c5.getD default)=true->inK .i64 (((32:Int)*(a2/(c3.getD default)))+(a3.getD 1 0)))/\((c5.getD default)=true->c6.isSome=true)/\((c5.getD default)=true->c7.isSome=true)then
         some (bif(c5.getD default)then(c7.getD default)else false)
        else none
       )
      ) w1
    else none
   else none
 else none
def sp_ref18_May(N:Nat):X.Spec:=fun args lk=>match args with
 | [.v (.c (.int .i64 a1)),.v (.c (.int .i64 a2)),.v (.agg [.ints 2 .i64 a3])]=>some ⟨(ref18_May N a1 a2 a3).isSome=true,.v (.c (.bool ((ref18_May N a1 a2 a3).getD default))),[],[]⟩
 | _=>none
theorem ok_ref18_May(N:Nat):FnOK Tryz.prog gt0 12 (sp_ref18_May N):=by
 refine fnOK_handed Tryz.func12 rfl (by kernel_rfl) tt_ok (ktCons (ok_ref18_inside N) (ktCons (ok_ref16_Size N) (ktCons (ok_ref16_Across N) (ktCons (ok_ref16_Many N) (ktNil))))) ?_
 intro args lk r h hp
 unfold sp_ref18_May at h
 split at h
 .rename_i a1 a2 a3
  change (List Int)at a3
  cases h
  obtain⟨x,hT⟩:=sX hp;clear hp
  simp only[hT,Option.getD_some]
  refine hand0 rfl rfl fun w0 M ε0 hX=>rCount fun hε => ?_
  unfold ref18_May at hT
  refine zA hX ?_
  refine rSeq ?_
  let c1:=(ref16_Many N a1)
  replace hT:=sIf hT;obtain⟨o1,hT⟩:=hT
  refine rSeq (rRegC md0 hX rfl rfl rfl zO ?_)
  refine rThen ?_
  refine zCond rfl rfl (fun hc => ?_) (fun hc => ?_)
  .replace hT:=sT hc hT
   refine zA hX ?_
   refine rRet (rThenRet ?_)
   have hy:=sJ hT;subst hy
   exact zEnd0 hX rfl
  .replace hT:=sF hc hT
   refine rSkip (rThen ?_)
   let c2:=(ref16_Across N a1)
   replace hT:=sIf hT;obtain⟨⟨o1,o2,o3⟩,hT⟩:=hT
   refine zA hX ?_
   let c3:=(ref16_Across N a1)
   replace hT:=sIf hT;obtain⟨⟨o1,o2,o3⟩,hT⟩:=hT
   refine zA hX ?_
   refine rSeq (zA hX ?_)
   refine rBlock ?_
   replace hT:=sBind hT;obtain⟨w1,hl,hT⟩:=hT
   refine rJoinA (fun v1=>(Sum.inl v1)=w1) (fun v1=>⟨[(6,.v (.c (.bool false)))],[],1⟩) .ret (fun v1 hv => ?_) (fun hxs10 => ?_)
   .subst hv;clear hl;replace hT:=(sElimL hT)
    refine rInRet (rThenRet ?_)
    have hy:=sJ hT;subst hy
    exact zEnd0 hX rfl
   refine rJoinA (fun v2=>(Sum.inr v2)=w1) (fun v2=>⟨[(0,.v (.c (.int .i64 a1))),(5,.v (.c (.ptr 0 0 0 0 0 0))),(6,.v (.c (.bool false))),(7,.v (.c (.int .i64 (a2%(c2.getD default))))),(8,.v (.c (.int .i64 (a2/(c3.getD default)))))],[(0,.mem true 30 none (.flat [.ints 2 .i64 a3]))],1⟩) (.exit 0) (fun v2 hv => ?_) (fun hxs11 => ?_)
   .subst hv;clear hl;replace hT:=(sElimR hT)
    refine rInHit (rThen ?_)
    let c4:=(ref16_Size N a1)
    let c5:=(ref18_inside N (((32:Int)*(a2%(c2.getD default)))+(a3.getD 0 0)) ((c4.getD default).getD 0 0))
    let c6:=(ref16_Size N a1)
    let c7:=(ref18_inside N (((32:Int)*(a2/(c3.getD default)))+(a3.getD 1 0)) ((c6.getD default).getD 1 0))
    replace hT:=sIf hT;obtain⟨⟨o1,o2,o3,o4,o5,o6,o7,o8⟩,hT⟩:=hT
    refine rSeq (rDrawM md0 0 [] hX mixed rfl rfl rfl rfl rfl zO ?_)
    refine rThen (rRet ?_)
    have hy:=sJ hT;subst hy
    exact zEnd0 hX rfl
   refine rLoopM (ref18_May_b1 N a3) (fun s1=>⟨[(0,.v (.c (.int .i64 a1))),(5,.v (.c (.ptr 0 0 0 0 0 0))),(6,.v (.c (.bool false))),(7,.v (.c (.int .i64 (a2%(c2.getD default))))),(8,.v (.c (.int .i64 (a2/(c3.getD default))))),(9,.v (.c (.int .i64 s1)))],[(0,.mem true 30 none (.flat [.ints 2 .i64 a3]))],1⟩) hl (To.mk' [] 0 hε rfl zL zL) (fun s1 zs1 NNs1 hz hnexts1 houts1 => ?_)
   clear hl hT
   have hT:=hz;clear hz
   refine rSeq (zA hX ?_)
   refine zCond rfl rfl (fun hc => ?_) (fun hc => ?_)
   .replace hT:=sT hc hT
    refine rSkip (rThen (rSeq (rBlock ?_)))
    let x1:=(bif(decide ((a3.getD (s1).toNat 0)<(-32)))then true else(decide ((31:Int)<(a3.getD (s1).toNat 0))))
    replace hT:=sIf hT;obtain⟨⟨o1,o2,o3,o4,o5,o6⟩,hT⟩:=hT
    refine rSeq (rRegC md0 hX rfl rfl rfl zO ?_)
    refine rThen ?_
    refine zCond rfl rfl (fun hc => ?_) (fun hc => ?_)
    .replace hT:=sT hc hT
     refine zA hX ?_
     refine rRet (rInRet (rThenRet (rThenRet ?_)))
     exact zTo [] 0 hε (hxs10 _ (houts1 _ (sJ hT).symm))
    .replace hT:=sF hc hT
     refine rSkip (rInNormal (rThen ?_))
     replace hT:=sIf hT;obtain⟨o1,hT⟩:=hT
     refine zReg md0 hX rfl rfl rfl ?_
     exact hnexts1 _ (sJ hT).symm _ (To.mk' [] 0 hε rfl zL zL)
   .replace hT:=sF hc hT
    refine rExit (rThenExit (rThenExit ?_))
    exact zTo [] 0 hε (hxs11 _ (houts1 _ (sJ hT).symm))
 .cases h
def ref10_Same_b1(N:Nat)(a1:Zt3)(a2:Zt3)(s1:Int):Option (Int⊕(Unit⊕Unit)):=
 bif(decide (s1<(a1.length:Int)))then
  let x1:=(!(((a1.getD (s1).toNat Zd1).1==(a2.getD (s1).toNat Zd1).1)&&(decide ((a1.getD (s1).toNat Zd1).2.1=(a2.getD (s1).toNat Zd1).2.1)&&(decide ((a1.getD (s1).toNat Zd1).2.2=(a2.getD (s1).toNat Zd1).2.2)&&true))))
  if(0:Int)<=s1/\s1<(a1.length:Int)/\s1<(a2.length:Int)then
   bif x1 then
    some (.inr (Sum.inl ()))
   else
    if inK .i64 (s1+1)then
     some (.inl (s1+1))
    else none
  else none
 else
  some (.inr (Sum.inr ()))
def ref10_Same(N:Nat)(a1:Zt3)(a2:Zt3):Option Bool:=
 bif(decide ((a1.length:Int)≠(a2.length:Int)))then
  some false
 else
  (iter (ref10_Same_b1 N a1 a2) N 0).bind fun w1=>
   (Sum.elim (fun v1=>
    some false
   )
    (fun v2=>
     some true
    )
   ) w1
def sp_ref10_Same(N:Nat):X.Spec:=fun args lk=>match args with
 | [.v (.c (.fz (.pair .bool (.pair (.int .i64) (.int .i64))) a1)),.v (.c (.fz (.pair .bool (.pair (.int .i64) (.int .i64))) a2))]=>some ⟨(ref10_Same N a1 a2).isSome=true,.v (.c (.bool ((ref10_Same N a1 a2).getD default))),[],[]⟩
 | _=>none
theorem ok_ref10_Same(N:Nat):FnOK Tryz.prog gt0 31 (sp_ref10_Same N):=by
 refine fnOK_handed Tryz.func31 rfl (by kernel_rfl) tt_ok (ktNil) ?_
 intro args lk r h hp
 unfold sp_ref10_Same at h
 split at h
 .rename_i a1 a2
  change Zt3 at a1
  change Zt3 at a2
  cases h
  obtain⟨x,hT⟩:=sX hp;clear hp
  simp only[hT,Option.getD_some]
  refine hand0 rfl rfl fun w0 M ε0 hX=>rCount fun hε => ?_
  unfold ref10_Same at hT
  refine zA hX ?_
  refine rSeq (zA hX ?_)
  refine zCond rfl rfl (fun hc => ?_) (fun hc => ?_)
  .replace hT:=sT hc hT
   refine zA hX ?_
   refine rRet (rThenRet ?_)
   have hy:=sJ hT;subst hy
   exact zEnd0 hX rfl
  .replace hT:=sF hc hT
   refine rSkip (rThen (rSeq (zA hX ?_)))
   refine rBlock ?_
   replace hT:=sBind hT;obtain⟨w1,hl,hT⟩:=hT
   refine rJoinA (fun v1=>(Sum.inl v1)=w1) (fun v1=>⟨[(4,.v (.c (.bool false)))],[],0⟩) .ret (fun v1 hv => ?_) (fun hxs10 => ?_)
   .subst hv;clear hl;replace hT:=(sElimL hT)
    refine rInRet (rThenRet ?_)
    have hy:=sJ hT;subst hy
    exact zEnd0 hX rfl
   refine rJoinA (fun v2=>(Sum.inr v2)=w1) (fun v2=>⟨[(4,.v (.c (.bool false)))],[],0⟩) (.exit 0) (fun v2 hv => ?_) (fun hxs11 => ?_)
   .subst hv;clear hl;replace hT:=(sElimR hT)
    refine rInHit (rThen (zA hX ?_))
    refine rRet ?_
    have hy:=sJ hT;subst hy
    exact zEnd0 hX rfl
   refine rLoopM (ref10_Same_b1 N a1 a2) (fun s1=>⟨[(0,.v (.c (.fz Zs1 a1))),(1,.v (.c (.fz Zs1 a2))),(4,.v (.c (.bool false))),(5,.v (.c (.int .i64 s1)))],[],0⟩) hl (To.mk' [] 0 hε rfl zL zL) (fun s1 zs1 NNs1 hz hnexts1 houts1 => ?_)
   clear hl hT
   have hT:=hz;clear hz
   refine rSeq (zA hX ?_)
   refine zCond rfl rfl (fun hc => ?_) (fun hc => ?_)
   .replace hT:=sT hc hT
    refine rSkip (rThen (rSeq (rBlock ?_)))
    let x1:=(!(((a1.getD (s1).toNat Zd1).1==(a2.getD (s1).toNat Zd1).1)&&(decide ((a1.getD (s1).toNat Zd1).2.1=(a2.getD (s1).toNat Zd1).2.1)&&(decide ((a1.getD (s1).toNat Zd1).2.2=(a2.getD (s1).toNat Zd1).2.2)&&true))))
    replace hT:=sIf hT;obtain⟨⟨o1,o2,o3⟩,hT⟩:=hT
    refine rSeq (zDraw md0 0 [] hX mixed rfl rfl rfl rfl rfl ?_)
    refine rThen ?_
    refine zCond rfl rfl (fun hc => ?_) (fun hc => ?_)
    .replace hT:=sT hc hT
     refine zA hX ?_
     refine rRet (rInRet (rThenRet (rThenRet ?_)))
     exact zTo [] 0 hε (hxs10 _ (houts1 _ (sJ hT).symm))
    .replace hT:=sF hc hT
     refine rSkip (rInNormal (rThen ?_))
     replace hT:=sIf hT;obtain⟨o1,hT⟩:=hT
     refine zReg md0 hX rfl rfl rfl ?_
     exact hnexts1 _ (sJ hT).symm _ (To.mk' [] 0 hε rfl zL zL)
   .replace hT:=sF hc hT
    refine rExit (rThenExit (rThenExit ?_))
    exact zTo [] 0 hε (hxs11 _ (houts1 _ (sJ hT).symm))
 .cases h
def ref21_Same_b1(N:Nat)(a7:Zt1)(a14:Zt1)(s1:Int):Option (Int⊕(Unit⊕Unit)):=
 bif(decide (s1<6))then
  let c1:=(ref10_Same N (a7.getD (s1).toNat []) (a14.getD (s1).toNat []))
  if(0:Int)<=s1/\s1<6/\(s1).toNat<6/\c1.isSome=true then
   bif(!(c1.getD default))then
    some (.inr (Sum.inl ()))
   else
    if inK .i64 (s1+1)then
     some (.inl (s1+1))
    else none
  else none
 else
  some (.inr (Sum.inr ()))
def ref21_Same(N:Nat)(a1:Int)(a2:Bool)(a3:Int)(a4:Int)(a5:(List Int))(a6:(List Int))(a7:Zt1)(a8:Int)(a9:Bool)(a10:Int)(a11:Int)(a12:(List Int))(a13:(List Int))(a14:Zt1):Option Bool:=
 let x7:=(bif(bif(bif(bif(bif(decide (a1≠a8))then true else(!(a2==a9)))then true else(decide (a3≠a10)))then true else(decide (a4≠a11)))then true else(!(decide (a5=a12))))then true else(!(decide (a6=a13))))
 bif x7 then
  some false
 else
  (iter (ref21_Same_b1 N a7 a14) N 0).bind fun w1=>
   (Sum.elim (fun v1=>
    some false
   )
    (fun v2=>
     some true
    )
   ) w1
def sp_ref21_Same(N:Nat):X.Spec:=fun args lk=>match args with
 | [.v (.agg [.cs [.int .i64 a1,.bool a2,.int .i64 a3,.int .i64 a4],.ints 2 .i64 a5,.ints 6 .i64 a6,.fzs 6 (.pair .bool (.pair (.int .i64) (.int .i64))) a7]),.v (.agg [.cs [.int .i64 a8,.bool a9,.int .i64 a10,.int .i64 a11],.ints 2 .i64 a12,.ints 6 .i64 a13,.fzs 6 (.pair .bool (.pair (.int .i64) (.int .i64))) a14])]=>some ⟨(ref21_Same N a1 a2 a3 a4 a5 a6 a7 a8 a9 a10 a11 a12 a13 a14).isSome=true,.v (.c (.bool ((ref21_Same N a1 a2 a3 a4 a5 a6 a7 a8 a9 a10 a11 a12 a13 a14).getD default))),[],[]⟩
 | _=>none
theorem ok_ref21_Same(N:Nat):FnOK Tryz.prog gt0 13 (sp_ref21_Same N):=by
 refine fnOK_handed Tryz.func13 rfl (by kernel_rfl) tt_ok (ktCons (ok_ref10_Same N) (ktNil)) ?_
 intro args lk r h hp
 unfold sp_ref21_Same at h
 split at h
 .rename_i a1 a2 a3 a4 a5 a6 a7 a8 a9 a10 a11 a12 a13 a14
  change (List Int)at a5
  change (List Int)at a6
  change Zt1 at a7
  change (List Int)at a12
  change (List Int)at a13
  change Zt1 at a14
  cases h
  obtain⟨x,hT⟩:=sX hp;clear hp
  simp only[hT,Option.getD_some]
  refine hand0 rfl rfl fun w0 M ε0 hX=>rCount fun hε => ?_
  unfold ref21_Same at hT
  refine zA hX ?_
  refine rSeq ?_
  let x7:=(bif(bif(bif(bif(bif(decide (a1≠a8))then true else(!(a2==a9)))then true else(decide (a3≠a10)))then true else(decide (a4≠a11)))then true else(!(decide (a5=a12))))then true else(!(decide (a6=a13))))
  refine zA hX ?_
  refine zCond rfl rfl (fun hc => ?_) (fun hc => ?_)
  .replace hT:=sT hc hT
   refine zA hX ?_
   refine rRet (rThenRet ?_)
   have hy:=sJ hT;subst hy
   exact zEnd0 hX rfl
  .replace hT:=sF hc hT
   refine rSkip (rThen (rSeq (zA hX ?_)))
   refine rBlock ?_
   replace hT:=sBind hT;obtain⟨w1,hl,hT⟩:=hT
   refine rJoinA (fun v1=>(Sum.inl v1)=w1) (fun v1=>⟨[(4,.v (.c (.bool false)))],[],2⟩) .ret (fun v1 hv => ?_) (fun hxs10 => ?_)
   .subst hv;clear hl;replace hT:=(sElimL hT)
    refine rInRet (rThenRet ?_)
    have hy:=sJ hT;subst hy
    exact zEnd0 hX rfl
   refine rJoinA (fun v2=>(Sum.inr v2)=w1) (fun v2=>⟨[(4,.v (.c (.bool false)))],[],2⟩) (.exit 0) (fun v2 hv => ?_) (fun hxs11 => ?_)
   .subst hv;clear hl;replace hT:=(sElimR hT)
    refine rInHit (rThen (zA hX ?_))
    refine rRet ?_
    have hy:=sJ hT;subst hy
    exact zEnd0 hX rfl
   refine rLoopM (ref21_Same_b1 N a7 a14) (fun s1=>⟨[(2,.v (.c (.ptr 0 0 0 0 0 0))),(3,.v (.c (.ptr 1 0 0 0 0 0))),(4,.v (.c (.bool false))),(5,.v (.c (.int .i64 s1)))],[(0,.mem true 35 none (.flat [.cs [.int .i64 a1,.bool a2,.int .i64 a3,.int .i64 a4],.ints 2 .i64 a5,.ints 6 .i64 a6,.fzs 6 Zs1 a7])),(1,.mem true 35 none (.flat [.cs [.int .i64 a8,.bool a9,.int .i64 a10,.int .i64 a11],.ints 2 .i64 a12,.ints 6 .i64 a13,.fzs 6 Zs1 a14]))],2⟩) hl (To.mk' [] 0 hε rfl zL zL) (fun s1 zs1 NNs1 hz hnexts1 houts1 => ?_)
   clear hl hT
   have hT:=hz;clear hz
   refine rSeq (zA hX ?_)
   refine zCond rfl rfl (fun hc => ?_) (fun hc => ?_)
   .replace hT:=sT hc hT
    refine rSkip (rThen (rSeq (rBlock ?_)))
    let c1:=(ref10_Same N (a7.getD (s1).toNat []) (a14.getD (s1).toNat []))
    replace hT:=sIf hT;obtain⟨⟨o1,o2,o3,o4⟩,hT⟩:=hT
    refine rSeq (zDraw md0 0 [] hX mixed rfl rfl rfl rfl rfl ?_)
    refine rThen ?_
    refine zCond rfl rfl (fun hc => ?_) (fun hc => ?_)
    .replace hT:=sT hc hT
     refine zA hX ?_
     refine rRet (rInRet (rThenRet (rThenRet ?_)))
     exact zTo [] 0 hε (hxs10 _ (houts1 _ (sJ hT).symm))
    .replace hT:=sF hc hT
     refine rSkip (rInNormal (rThen ?_))
     replace hT:=sIf hT;obtain⟨o1,hT⟩:=hT
     refine zReg md0 hX rfl rfl rfl ?_
     exact hnexts1 _ (sJ hT).symm _ (To.mk' [] 0 hε rfl zL zL)
   .replace hT:=sF hc hT
    refine rExit (rThenExit (rThenExit ?_))
    exact zTo [] 0 hε (hxs11 _ (houts1 _ (sJ hT).symm))
 .cases h
def ref01_Clip(N:Nat)(a1:Int)(a2:Int)(a3:Int):Option Int:=
 bif(bif(decide (a3<a2))then true else(decide (a1<a2)))then
  some a2
 else
  bif(decide (a3<a1))then
   some a3
  else
   some a1
def sp_ref01_Clip(N:Nat):X.Spec:=fun args lk=>match args with
 | [.v (.c (.int .i64 a1)),.v (.c (.int .i64 a2)),.v (.c (.int .i64 a3))]=>some ⟨(ref01_Clip N a1 a2 a3).isSome=true,.v (.c (.int .i64 ((ref01_Clip N a1 a2 a3).getD default))),[],[]⟩
 | _=>none
theorem ok_ref01_Clip(N:Nat):FnOK Tryz.prog gt0 89 (sp_ref01_Clip N):=by
 refine fnOK_handed Tryz.func89 rfl (by kernel_rfl) tt_ok (ktNil) ?_
 intro args lk r h hp
 unfold sp_ref01_Clip at h
 split at h
 .rename_i a1 a2 a3
  cases h
  obtain⟨x,hT⟩:=sX hp;clear hp
  simp only[hT,Option.getD_some]
  refine hand0 rfl rfl fun w0 M ε0 hX=>rCount fun hε => ?_
  unfold ref01_Clip at hT
  refine zA hX ?_
  refine rSeq (zA hX ?_)
  refine zCond rfl rfl (fun hc => ?_) (fun hc => ?_)
  .replace hT:=sT hc hT
   refine zA hX ?_
   refine rRet (rThenRet ?_)
   have hy:=sJ hT;subst hy
   exact zEnd0 hX rfl
  .replace hT:=sF hc hT
   refine rSkip (rThen (rSeq (zA hX ?_)))
   refine zCond rfl rfl (fun hc => ?_) (fun hc => ?_)
   .replace hT:=sT hc hT
    refine zA hX ?_
    refine rRet (rThenRet ?_)
    have hy:=sJ hT;subst hy
    exact zEnd0 hX rfl
   .replace hT:=sF hc hT
    refine rSkip (rThen (zA hX ?_))
    refine rRet ?_
    have hy:=sJ hT;subst hy
    exact zEnd0 hX rfl
 .cases h
def ref17_New_own_b1(N:Nat)(a2:Int)(c5:(Option Int))(c6:(Option Int)) (s3:(Int×(List Int))):Option ((Int×(List Int))⊕(List Int)):=
 bif(decide (s3.1<(((c5.getD default)*(c6.getD default)).toNat:Int)))then
  let c7:=(ref01_Clip N a2 0 255)
  if c7.isSome=true/\inK .u8 (c7.getD default)/\(0:Int)<=s3.1/\s3.1<(((c5.getD default)*(c6.getD default)).toNat:Int)/\(s3.1).toNat<((c5.getD default)*(c6.getD default)).toNat then
   if inK .i64 (s3.1+1)then
    some (.inl ((s3.1+1),(s3.2.set (s3.1).toNat (c7.getD default))))
   else none
  else none
 else
  some (.inr s3.2)
def ref17_New_own_b2(N:Nat)(a2:Int)(c3:(Option Int))(c4:(Option Int)) (s2:(Int×(List Int))):Option ((Int×(List Int))⊕(List Int)):=
 bif(decide (s2.1<(((c3.getD default)*(c4.getD default)).toNat:Int)))then
  let c8:=(ref01_Clip N a2 0 255)
  if c8.isSome=true/\inK .u8 (c8.getD default)/\(0:Int)<=s2.1/\s2.1<(((c3.getD default)*(c4.getD default)).toNat:Int)/\(s2.1).toNat<((c3.getD default)*(c4.getD default)).toNat then
   if inK .i64 (s2.1+1)then
    some (.inl ((s2.1+1),(s2.2.set (s2.1).toNat (c8.getD default))))
   else none
  else none
 else
  some (.inr s2.2)
def ref17_New_own_b3(N:Nat)(a2:Int)(c1:(Option Int))(c2:(Option Int)) (s1:(Int×(List Int))):Option ((Int×(List Int))⊕(List Int)):=
 bif(decide (s1.1<(((c1.getD default)*(c2.getD default)).toNat:Int)))then
  let c9:=(ref01_Clip N a2 0 255)
  if c9.isSome=true/\inK .u8 (c9.getD default)/\(0:Int)<=s1.1/\s1.1<(((c1.getD default)*(c2.getD default)).toNat:Int)/\(s1.1).toNat<((c1.getD default)*(c2.getD default)).toNat then
   if inK .i64 (s1.1+1)then
    some (.inl ((s1.1+1),(s1.2.set (s1.1).toNat (c9.getD default))))
   else none
  else none
 else
  some (.inr s1.2)
def ref17_New_own(N:Nat)(a1:Int)(a2:Int):Option Zt6:=
 let c1:=(ref17_Wide N a1 0)
 let c2:=(ref17_High N a1 0)
 if c1.isSome=true/\c2.isSome=true/\inK .i64 ((c1.getD default)*(c2.getD default))/\(0:Int)<=((c1.getD default)*(c2.getD default))/\((c1.getD default)*(c2.getD default))*1<=140737488355328 then
  (iter (ref17_New_own_b3 N a2 c1 c2) N (0,(List.replicate ((c1.getD default)*(c2.getD default)).toNat 0))).bind fun v1=>
   let c3:=(ref17_Wide N a1 1)
   let c4:=(ref17_High N a1 1)
   if c3.isSome=true/\c4.isSome=true/\inK .i64 ((c3.getD default)*(c4.getD default))/\(0:Int)<=((c3.getD default)*(c4.getD default))/\((c3.getD default)*(c4.getD default))*1<=140737488355328 then
    (iter (ref17_New_own_b2 N a2 c3 c4) N (0,(List.replicate ((c3.getD default)*(c4.getD default)).toNat 0))).bind fun v2=>
     let c5:=(ref17_Wide N a1 2)
     let c6:=(ref17_High N a1 2)
     if c5.isSome=true/\c6.isSome=true/\inK .i64 ((c5.getD default)*(c6.getD default))/\(0:Int)<=((c5.getD default)*(c6.getD default))/\((c5.getD default)*(c6.getD default))*1<=140737488355328 then
      (iter (ref17_New_own_b1 N a2 c5 c6) N (0,(List.replicate ((c5.getD default)*(c6.getD default)).toNat 0))).bind fun v3=>
       some (a1,((c1.getD default)*(c2.getD default)).toNat,((c3.getD default)*(c4.getD default)).toNat,((c5.getD default)*(c6.getD default)).toNat,((c1.getD default)*(c2.getD default)).toNat,v1,((c3.getD default)*(c4.getD default)).toNat,v2,((c5.getD default)*(c6.getD default)).toNat,v3)
     else none
   else none
 else none
def sp_ref17_New_own(N:Nat):X.Spec:=fun args lk=>match args with
 | [.v (.c (.int .i64 a1)),.v (.c (.int .i64 a2))]=>some ⟨(ref17_New_own N a1 a2).isSome=true,.v (.agg [.cs [.int .i64 ((ref17_New_own N a1 a2).getD default).1,.sl 0 0 ((ref17_New_own N a1 a2).getD default).2.1 1,.sl 1 0 ((ref17_New_own N a1 a2).getD default).2.2.1 1,.sl 2 0 ((ref17_New_own N a1 a2).getD default).2.2.2.1 1]]),[.mem true 5 (some 0) (.flat [.ints ((ref17_New_own N a1 a2).getD default).2.2.2.2.1 .u8 ((ref17_New_own N a1 a2).getD default).2.2.2.2.2.1]),.mem true 5 (some 0) (.flat [.ints ((ref17_New_own N a1 a2).getD default).2.2.2.2.2.2.1 .u8 ((ref17_New_own N a1 a2).getD default).2.2.2.2.2.2.2.1]),.mem true 5 (some 0) (.flat [.ints ((ref17_New_own N a1 a2).getD default).2.2.2.2.2.2.2.2.1 .u8 ((ref17_New_own N a1 a2).getD default).2.2.2.2.2.2.2.2.2])],[]⟩
 | _=>none
theorem ok_ref17_New_own(N:Nat):FnOK Tryz.prog gt0 88 (sp_ref17_New_own N):=by
 refine fnOK_handed Tryz.func88 rfl (by kernel_rfl) ttC_ok (ktCons (ok_ref01_Clip N) (ktCons (ok_ref17_High N) (ktCons (ok_ref17_Wide N) (ktNil)))) ?_
 intro args lk r h hp
 unfold sp_ref17_New_own at h
 split at h
 .rename_i a1 a2
  cases h
  obtain⟨x,hT⟩:=sX hp;clear hp
  simp only[hT,Option.getD_some]
  refine hand0 rfl rfl fun w0 M ε0 hX=>rCount fun hε => ?_
  unfold ref17_New_own at hT
  refine zA hX ?_
  refine zA hX ?_
  refine rSeq (zA hX ?_)
  refine rBlock (rRounds 24 ?_)
  refine rSeq (zA hX ?_)
  refine rCondT rfl rfl zP rfl ?_
  refine rSkip (rThen (rSeq (rBlock ?_)))
  let c1:=(ref17_Wide N a1 0)
  let c2:=(ref17_High N a1 0)
  replace hT:=sIf hT;obtain⟨⟨o1,o2,o3,o4,o5⟩,hT⟩:=hT
  refine zA hX ?_
  refine rSeq (zA hX ?_)
  refine rBlock ?_
  replace hT:=sBind hT;obtain⟨w1,hl,hT⟩:=hT
  refine rJoinA (fun v1=>v1=w1) (fun v1=>⟨[(0,.v (.c (.int .i64 a1))),(1,.v (.c (.int .i64 a2))),(4,.v (.c (.ptr 0 0 0 0 0 0))),(5,.v (.c (.ptr 1 0 0 0 0 0))),(6,.v (.c (.int .i64 0))),(7,.v (.c (.sl 2 0 ((c1.getD default)*(c2.getD default)).toNat 1)))],[(0,.mem true 25 none (.flat [.cs [.int .i64 0,.val (.slice none 0 0),.val (.slice none 0 0),.val (.slice none 0 0)]])),(1,.mem true 25 none (.flat [.cs [.int .i64 a1,.val (.slice none 0 0),.val (.slice none 0 0),.val (.slice none 0 0)]])),(2,.mem true 5 (some 1) (.flat [.ints ((c1.getD default)*(c2.getD default)).toNat .u8 v1]))],3⟩) (.exit 2) (fun v1 hv => ?_) (fun hxs10 => ?_)
  .subst hv;clear hl
   refine rInHit (rThen (zReg md0 hX rfl rfl rfl ?_))
   refine rInNormal (rThen (zReg md0 hX rfl rfl rfl ?_))
   refine rRound ?_
   refine rSeq (zA hX ?_)
   refine rCondT rfl rfl zP rfl ?_
   refine rSkip (rThen (rSeq (rBlock ?_)))
   let c3:=(ref17_Wide N a1 1)
   let c4:=(ref17_High N a1 1)
   replace hT:=sIf hT;obtain⟨⟨o1,o2,o3,o4,o5⟩,hT⟩:=hT
   refine zA hX ?_
   refine rSeq (zA hX ?_)
   refine rBlock ?_
   replace hT:=sBind hT;obtain⟨w2,hl,hT⟩:=hT
   refine rJoinA (fun v2=>v2=w2) (fun v2=>⟨[(0,.v (.c (.int .i64 a1))),(1,.v (.c (.int .i64 a2))),(4,.v (.c (.ptr 0 0 0 0 0 0))),(5,.v (.c (.ptr 1 0 0 0 0 0))),(6,.v (.c (.int .i64 1))),(7,.v (.c (.sl 3 0 ((c3.getD default)*(c4.getD default)).toNat 1)))],[(0,.mem true 25 none (.flat [.cs [.int .i64 0,.val (.slice none 0 0),.val (.slice none 0 0),.val (.slice none 0 0)]])),(1,.mem true 25 none (.flat [.cs [.int .i64 a1,.sl 2 0 ((c1.getD default)*(c2.getD default)).toNat 1,.val (.slice none 0 0),.val (.slice none 0 0)]])),(2,.mem true 5 (some 1) (.flat [.ints ((c1.getD default)*(c2.getD default)).toNat .u8 v1])),(3,.mem true 5 (some 1) (.flat [.ints ((c3.getD default)*(c4.getD default)).toNat .u8 v2]))],4⟩) (.exit 2) (fun v2 hv => ?_) (fun hxs20 => ?_)
   .subst hv;clear hl
    refine rInHit (rThen (zReg md0 hX rfl rfl rfl ?_))
    refine rInNormal (rThen (zReg md0 hX rfl rfl rfl ?_))
    refine rRound ?_
    refine rSeq (zA hX ?_)
    refine rCondT rfl rfl zP rfl ?_
    refine rSkip (rThen (rSeq (rBlock ?_)))
    let c5:=(ref17_Wide N a1 2)
    let c6:=(ref17_High N a1 2)
    replace hT:=sIf hT;obtain⟨⟨o1,o2,o3,o4,o5⟩,hT⟩:=hT
    refine zA hX ?_
    refine rSeq (zA hX ?_)
    refine rBlock ?_
    replace hT:=sBind hT;obtain⟨w3,hl,hT⟩:=hT
    refine rJoinA (fun v3=>v3=w3) (fun v3=>⟨[(0,.v (.c (.int .i64 a1))),(1,.v (.c (.int .i64 a2))),(4,.v (.c (.ptr 0 0 0 0 0 0))),(5,.v (.c (.ptr 1 0 0 0 0 0))),(6,.v (.c (.int .i64 2))),(7,.v (.c (.sl 4 0 ((c5.getD default)*(c6.getD default)).toNat 1)))],[(0,.mem true 25 none (.flat [.cs [.int .i64 0,.val (.slice none 0 0),.val (.slice none 0 0),.val (.slice none 0 0)]])),(1,.mem true 25 none (.flat [.cs [.int .i64 a1,.sl 2 0 ((c1.getD default)*(c2.getD default)).toNat 1,.sl 3 0 ((c3.getD default)*(c4.getD default)).toNat 1,.val (.slice none 0 0)]])),(2,.mem true 5 (some 1) (.flat [.ints ((c1.getD default)*(c2.getD default)).toNat .u8 v1])),(3,.mem true 5 (some 1) (.flat [.ints ((c3.getD default)*(c4.getD default)).toNat .u8 v2])),(4,.mem true 5 (some 1) (.flat [.ints ((c5.getD default)*(c6.getD default)).toNat .u8 v3]))],5⟩) (.exit 2) (fun v3 hv => ?_) (fun hxs30 => ?_)
    .subst hv;clear hl
     refine rInHit (rThen (zReg md0 hX rfl rfl rfl ?_))
     refine rInNormal (rThen (zReg md0 hX rfl rfl rfl ?_))
     refine rRound ?_
     refine rSeq (zA hX ?_)
     refine rCondF rfl rfl zP rfl ?_
     refine rExit (rThenExit (rThenExit (rInHit (rThen (zA hX ?_)))))
     refine rRet (rTail0Q 2 rfl rfl ?_)
     refine rTail0Q 3 rfl rfl ?_
     refine rTail0Q 4 rfl rfl ?_
     have hy:=sJ hT;subst hy
     exact rEndA [2,3,4] [.mem true 5 (some 0) (.flat [.ints ((c1.getD default)*(c2.getD default)).toNat .u8 v1]),.mem true 5 (some 0) (.flat [.ints ((c3.getD default)*(c4.getD default)).toNat .u8 v2]),.mem true 5 (some 0) (.flat [.ints ((c5.getD default)*(c6.getD default)).toNat .u8 v3])] [] (.v (.agg [.cs [.int .i64 a1,.sl 2 0 ((c1.getD default)*(c2.getD default)).toNat 1,.sl 3 0 ((c3.getD default)*(c4.getD default)).toNat 1,.sl 4 0 ((c5.getD default)*(c6.getD default)).toNat 1]])) hX rfl zZ zL rfl rfl rfl zT rfl rfl zT rfl rfl
    refine rLoopM (ref17_New_own_b1 N a2 c5 c6) (fun s3=>⟨[(0,.v (.c (.int .i64 a1))),(1,.v (.c (.int .i64 a2))),(4,.v (.c (.ptr 0 0 0 0 0 0))),(5,.v (.c (.ptr 1 0 0 0 0 0))),(6,.v (.c (.int .i64 2))),(7,.v (.c (.sl 4 0 ((c5.getD default)*(c6.getD default)).toNat 1))),(8,.v (.c (.int .i64 s3.1)))],[(0,.mem true 25 none (.flat [.cs [.int .i64 0,.val (.slice none 0 0),.val (.slice none 0 0),.val (.slice none 0 0)]])),(1,.mem true 25 none (.flat [.cs [.int .i64 a1,.sl 2 0 ((c1.getD default)*(c2.getD default)).toNat 1,.sl 3 0 ((c3.getD default)*(c4.getD default)).toNat 1,.val (.slice none 0 0)]])),(2,.mem true 5 (some 1) (.flat [.ints ((c1.getD default)*(c2.getD default)).toNat .u8 v1])),(3,.mem true 5 (some 1) (.flat [.ints ((c3.getD default)*(c4.getD default)).toNat .u8 v2])),(4,.mem true 5 (some 1) (.flat [.ints ((c5.getD default)*(c6.getD default)).toNat .u8 s3.2]))],5⟩) hl (To.mk' [] 0 hε rfl zL zL) (fun s3 zs3 NNs3 hz hnexts3 houts3 => ?_)
    clear hl hT
    have hT:=hz;clear hz
    refine rSeq (zA hX ?_)
    refine zCond rfl rfl (fun hc => ?_) (fun hc => ?_)
    .replace hT:=sT hc hT
     refine rSkip (rThen (rSeq (rBlock ?_)))
     let c7:=(ref01_Clip N a2 0 255)
     replace hT:=sIf hT;obtain⟨⟨o1,o2,o3,o4,o5⟩,hT⟩:=hT
     refine zReg md0 hX rfl rfl rfl ?_
     refine rInNormal (rThen ?_)
     replace hT:=sIf hT;obtain⟨o1,hT⟩:=hT
     refine zReg md0 hX rfl rfl rfl ?_
     exact hnexts3 _ (sJ hT).symm _ (To.mk' [] 0 hε rfl zL zL)
    .replace hT:=sF hc hT
     refine rExit (rThenExit (rThenExit ?_))
     exact zTo [] 0 hε (hxs30 _ (houts3 _ (sJ hT).symm))
   refine rLoopM (ref17_New_own_b2 N a2 c3 c4) (fun s2=>⟨[(0,.v (.c (.int .i64 a1))),(1,.v (.c (.int .i64 a2))),(4,.v (.c (.ptr 0 0 0 0 0 0))),(5,.v (.c (.ptr 1 0 0 0 0 0))),(6,.v (.c (.int .i64 1))),(7,.v (.c (.sl 3 0 ((c3.getD default)*(c4.getD default)).toNat 1))),(8,.v (.c (.int .i64 s2.1)))],[(0,.mem true 25 none (.flat [.cs [.int .i64 0,.val (.slice none 0 0),.val (.slice none 0 0),.val (.slice none 0 0)]])),(1,.mem true 25 none (.flat [.cs [.int .i64 a1,.sl 2 0 ((c1.getD default)*(c2.getD default)).toNat 1,.val (.slice none 0 0),.val (.slice none 0 0)]])),(2,.mem true 5 (some 1) (.flat [.ints ((c1.getD default)*(c2.getD default)).toNat .u8 v1])),(3,.mem true 5 (some 1) (.flat [.ints ((c3.getD default)*(c4.getD default)).toNat .u8 s2.2]))],4⟩) hl (To.mk' [] 0 hε rfl zL zL) (fun s2 zs2 NNs2 hz hnexts2 houts2 => ?_)
   clear hl hT
   have hT:=hz;clear hz
   refine rSeq (zA hX ?_)
   refine zCond rfl rfl (fun hc => ?_) (fun hc => ?_)
   .replace hT:=sT hc hT
    refine rSkip (rThen (rSeq (rBlock ?_)))
    let c8:=(ref01_Clip N a2 0 255)
    replace hT:=sIf hT;obtain⟨⟨o1,o2,o3,o4,o5⟩,hT⟩:=hT
    refine zReg md0 hX rfl rfl rfl ?_
    refine rInNormal (rThen ?_)
    replace hT:=sIf hT;obtain⟨o1,hT⟩:=hT
    refine zReg md0 hX rfl rfl rfl ?_
    exact hnexts2 _ (sJ hT).symm _ (To.mk' [] 0 hε rfl zL zL)
   .replace hT:=sF hc hT
    refine rExit (rThenExit (rThenExit ?_))
    exact zTo [] 0 hε (hxs20 _ (houts2 _ (sJ hT).symm))
  refine rLoopM (ref17_New_own_b3 N a2 c1 c2) (fun s1=>⟨[(0,.v (.c (.int .i64 a1))),(1,.v (.c (.int .i64 a2))),(4,.v (.c (.ptr 0 0 0 0 0 0))),(5,.v (.c (.ptr 1 0 0 0 0 0))),(6,.v (.c (.int .i64 0))),(7,.v (.c (.sl 2 0 ((c1.getD default)*(c2.getD default)).toNat 1))),(8,.v (.c (.int .i64 s1.1)))],[(0,.mem true 25 none (.flat [.cs [.int .i64 0,.val (.slice none 0 0),.val (.slice none 0 0),.val (.slice none 0 0)]])),(1,.mem true 25 none (.flat [.cs [.int .i64 a1,.val (.slice none 0 0),.val (.slice none 0 0),.val (.slice none 0 0)]])),(2,.mem true 5 (some 1) (.flat [.ints ((c1.getD default)*(c2.getD default)).toNat .u8 s1.2]))],3⟩) hl (To.mk' [] 0 hε rfl zL zL) (fun s1 zs1 NNs1 hz hnexts1 houts1 => ?_)
  clear hl hT
  have hT:=hz;clear hz
  refine rSeq (zA hX ?_)
  refine zCond rfl rfl (fun hc => ?_) (fun hc => ?_)
  .replace hT:=sT hc hT
   refine rSkip (rThen (rSeq (rBlock ?_)))
   let c9:=(ref01_Clip N a2 0 255)
   replace hT:=sIf hT;obtain⟨⟨o1,o2,o3,o4,o5⟩,hT⟩:=hT
   refine zReg md0 hX rfl rfl rfl ?_
   refine rInNormal (rThen ?_)
   replace hT:=sIf hT;obtain⟨o1,hT⟩:=hT
   refine zReg md0 hX rfl rfl rfl ?_
   exact hnexts1 _ (sJ hT).symm _ (To.mk' [] 0 hε rfl zL zL)
  .replace hT:=sF hc hT
   refine rExit (rThenExit (rThenExit ?_))
   exact zTo [] 0 hε (hxs10 _ (houts1 _ (sJ hT).symm))
 .cases h
def ref34_Add_b1(N:Nat) (a2:(List (List Int))) (a4:(List (List Int))) (c1:(Option Zt6)) (s3:(Int×(List Int))):Option ((Int×(List Int))⊕(List Int)):=
 bif(decide (s3.1<((a2.getD 2 []).length:Int)))then
  let c2:=(ref01_Clip N (((a2.getD 2 []).getD (s3.1).toNat 0)+((a4.getD 2 []).getD (s3.1).toNat 0)) 0 255)
  if(0:Int)<=s3.1/\s3.1<((a2.getD 2 []).length:Int)/\inK .i64 ((a2.getD 2 []).getD (s3.1).toNat 0)/\s3.1<((a4.getD 2 []).length:Int)/\inK .i64 (((a2.getD 2 []).getD (s3.1).toNat 0)+((a4.getD 2 []).getD (s3.1).toNat 0))/\c2.isSome=true/\inK .u8 (c2.getD default)/\s3.1<((c1.getD default).2.2.2.1:Int)/\(s3.1).toNat<(c1.getD default).2.2.2.2.2.2.2.2.1 then
   if inK .i64 (s3.1+1)then
    some (.inl ((s3.1+1),(s3.2.set (s3.1).toNat (c2.getD default))))
   else none
  else none
 else
  some (.inr s3.2)
def ref34_Add_b2(N:Nat) (a2:(List (List Int))) (a4:(List (List Int))) (c1:(Option Zt6)) (s2:(Int×(List Int))):Option ((Int×(List Int))⊕(List Int)):=
 bif(decide (s2.1<((a2.getD 1 []).length:Int)))then
  let c3:=(ref01_Clip N (((a2.getD 1 []).getD (s2.1).toNat 0)+((a4.getD 1 []).getD (s2.1).toNat 0)) 0 255)
  if(0:Int)<=s2.1/\s2.1<((a2.getD 1 []).length:Int)/\inK .i64 ((a2.getD 1 []).getD (s2.1).toNat 0)/\s2.1<((a4.getD 1 []).length:Int)/\inK .i64 (((a2.getD 1 []).getD (s2.1).toNat 0)+((a4.getD 1 []).getD (s2.1).toNat 0))/\c3.isSome=true/\inK .u8 (c3.getD default)/\s2.1<((c1.getD default).2.2.1:Int)/\(s2.1).toNat<(c1.getD default).2.2.2.2.2.2.1 then
   if inK .i64 (s2.1+1)then
    some (.inl ((s2.1+1),(s2.2.set (s2.1).toNat (c3.getD default))))
   else none
  else none
 else
  some (.inr s2.2)
def ref34_Add_b3(N:Nat) (a2:(List (List Int))) (a4:(List (List Int))) (c1:(Option Zt6)) (s1:(Int×(List Int))):Option ((Int×(List Int))⊕(List Int)):=
 bif(decide (s1.1<((a2.getD 0 []).length:Int)))then
  let c4:=(ref01_Clip N (((a2.getD 0 []).getD (s1.1).toNat 0)+((a4.getD 0 []).getD (s1.1).toNat 0)) 0 255)
  if(0:Int)<=s1.1/\s1.1<((a2.getD 0 []).length:Int)/\inK .i64 ((a2.getD 0 []).getD (s1.1).toNat 0)/\s1.1<((a4.getD 0 []).length:Int)/\inK .i64 (((a2.getD 0 []).getD (s1.1).toNat 0)+((a4.getD 0 []).getD (s1.1).toNat 0))/\c4.isSome=true/\inK .u8 (c4.getD default)/\s1.1<((c1.getD default).2.1:Int)/\(s1.1).toNat<(c1.getD default).2.2.2.2.1 then
   if inK .i64 (s1.1+1)then
    some (.inl ((s1.1+1),(s1.2.set (s1.1).toNat (c4.getD default))))
   else none
  else none
 else
  some (.inr s1.2)
def ref34_Add(N:Nat)(a1:Int) (a2:(List (List Int))) (a3:Int) (a4:(List (List Int))):Option Zt14:=
 let c1:=(ref17_New_own N a1 0)
 if c1.isSome=true then
  (iter (ref34_Add_b3 N a2 a4 c1) N (0,(c1.getD default).2.2.2.2.2.1)).bind fun v1=>
   (iter (ref34_Add_b2 N a2 a4 c1) N (0,(c1.getD default).2.2.2.2.2.2.2.1)).bind fun v2=>
    (iter (ref34_Add_b1 N a2 a4 c1) N (0,(c1.getD default).2.2.2.2.2.2.2.2.2)).bind fun v3=>
     if(c1.getD default).2.1=v1.length/\(c1.getD default).2.2.1=v2.length/\(c1.getD default).2.2.2.1=v3.length then
      some ((c1.getD default).1,[v1,v2,v3])
     else none
 else none
def sp_ref34_Add(N:Nat):X.Spec:=fun args lk=>match args with
 | [.v (.agg [.cs [.int .i64 a1],.fzs 3 (.int .u8) a2]),.v (.agg [.cs [.int .i64 a3],.fzs 3 (.int .i64) a4])]=>some ⟨(ref34_Add N a1 a2 a3 a4).isSome=true,.v (.agg [.cs [.int .i64 ((ref34_Add N a1 a2 a3 a4).getD default).1],.fzs 3 (.int .u8) ((ref34_Add N a1 a2 a3 a4).getD default).2]),[],[]⟩
 | _=>none
theorem ok_ref34_Add(N:Nat):FnOK Tryz.prog gt0 55 (sp_ref34_Add N):=by
 refine fnOK_handed Tryz.func55 rfl (by kernel_rfl) ttC_ok (ktCons (ok_ref01_Clip N) (ktCons (ok_ref17_New_own N) (ktNil))) ?_
 intro args lk r h hp
 unfold sp_ref34_Add at h
 split at h
 .rename_i a1 a2 a3 a4
  change (List (List Int))at a2
  change (List (List Int))at a4
  cases h
  obtain⟨x,hT⟩:=sX hp;clear hp
  simp only[hT,Option.getD_some]
  refine hand0 rfl rfl fun w0 M ε0 hX=>rCount fun hε => ?_
  unfold ref34_Add at hT
  refine zA hX ?_
  let c1:=(ref17_New_own N a1 0)
  replace hT:=sIf hT;obtain⟨o1,hT⟩:=hT
  refine zA hX ?_
  refine rSeq (zA hX ?_)
  refine rBlock (rRounds 24 ?_)
  refine rSeq (zA hX ?_)
  refine rCondT rfl rfl zP rfl ?_
  refine rSkip (rThen (rSeq (rBlock (zA hX ?_))))
  refine rBlock ?_
  replace hT:=sBind hT;obtain⟨w1,hl,hT⟩:=hT
  refine rJoinA (fun v1=>v1=w1) (fun v1=>⟨[(2,.v (.c (.ptr 0 0 0 0 0 0))),(3,.v (.c (.ptr 1 0 0 0 0 0))),(4,.v (.c (.ptr 2 0 0 0 0 0))),(5,.v (.c (.ptr 6 0 0 0 0 0))),(6,.v (.c (.int .i64 0)))],[(0,.mem true 25 none (.flat [.cs [.int .i64 a1],.fzs 3 (.int .u8) a2])),(1,.mem true 29 none (.flat [.cs [.int .i64 a3],.fzs 3 (.int .i64) a4])),(2,.mem true 25 none (.flat [.cs [.int .i64 0,.val (.slice none 0 0),.val (.slice none 0 0),.val (.slice none 0 0)]])),(3,.mem true 5 (some 0) (.flat [.ints (c1.getD default).2.2.2.2.1 .u8 v1])),(4,.mem true 5 (some 0) (.flat [.ints (c1.getD default).2.2.2.2.2.2.1 .u8 (c1.getD default).2.2.2.2.2.2.2.1])),(5,.mem true 5 (some 0) (.flat [.ints (c1.getD default).2.2.2.2.2.2.2.2.1 .u8 (c1.getD default).2.2.2.2.2.2.2.2.2])),(6,.mem true 25 none (.flat [.cs [.int .i64 (c1.getD default).1,.sl 3 0 (c1.getD default).2.1 1,.sl 4 0 (c1.getD default).2.2.1 1,.sl 5 0 (c1.getD default).2.2.2.1 1]]))],7⟩) (.exit 2) (fun v1 hv => ?_) (fun hxs10 => ?_)
  .subst hv;clear hl
   refine rInHit (rInNormal (rThen (zReg md0 hX rfl rfl rfl ?_)))
   refine rRound ?_
   refine rSeq (zA hX ?_)
   refine rCondT rfl rfl zP rfl ?_
   refine rSkip (rThen (rSeq (rBlock (zA hX ?_))))
   refine rBlock ?_
   replace hT:=sBind hT;obtain⟨w2,hl,hT⟩:=hT
   refine rJoinA (fun v2=>v2=w2) (fun v2=>⟨[(2,.v (.c (.ptr 0 0 0 0 0 0))),(3,.v (.c (.ptr 1 0 0 0 0 0))),(4,.v (.c (.ptr 2 0 0 0 0 0))),(5,.v (.c (.ptr 6 0 0 0 0 0))),(6,.v (.c (.int .i64 1)))],[(0,.mem true 25 none (.flat [.cs [.int .i64 a1],.fzs 3 (.int .u8) a2])),(1,.mem true 29 none (.flat [.cs [.int .i64 a3],.fzs 3 (.int .i64) a4])),(2,.mem true 25 none (.flat [.cs [.int .i64 0,.val (.slice none 0 0),.val (.slice none 0 0),.val (.slice none 0 0)]])),(3,.mem true 5 (some 0) (.flat [.ints (c1.getD default).2.2.2.2.1 .u8 v1])),(4,.mem true 5 (some 0) (.flat [.ints (c1.getD default).2.2.2.2.2.2.1 .u8 v2])),(5,.mem true 5 (some 0) (.flat [.ints (c1.getD default).2.2.2.2.2.2.2.2.1 .u8 (c1.getD default).2.2.2.2.2.2.2.2.2])),(6,.mem true 25 none (.flat [.cs [.int .i64 (c1.getD default).1,.sl 3 0 (c1.getD default).2.1 1,.sl 4 0 (c1.getD default).2.2.1 1,.sl 5 0 (c1.getD default).2.2.2.1 1]]))],7⟩) (.exit 2) (fun v2 hv => ?_) (fun hxs20 => ?_)
   .subst hv;clear hl
    refine rInHit (rInNormal (rThen (zReg md0 hX rfl rfl rfl ?_)))
    refine rRound ?_
    refine rSeq (zA hX ?_)
    refine rCondT rfl rfl zP rfl ?_
    refine rSkip (rThen (rSeq (rBlock (zA hX ?_))))
    refine rBlock ?_
    replace hT:=sBind hT;obtain⟨w3,hl,hT⟩:=hT
    refine rJoinA (fun v3=>v3=w3) (fun v3=>⟨[(2,.v (.c (.ptr 0 0 0 0 0 0))),(3,.v (.c (.ptr 1 0 0 0 0 0))),(4,.v (.c (.ptr 2 0 0 0 0 0))),(5,.v (.c (.ptr 6 0 0 0 0 0))),(6,.v (.c (.int .i64 2)))],[(0,.mem true 25 none (.flat [.cs [.int .i64 a1],.fzs 3 (.int .u8) a2])),(1,.mem true 29 none (.flat [.cs [.int .i64 a3],.fzs 3 (.int .i64) a4])),(2,.mem true 25 none (.flat [.cs [.int .i64 0,.val (.slice none 0 0),.val (.slice none 0 0),.val (.slice none 0 0)]])),(3,.mem true 5 (some 0) (.flat [.ints (c1.getD default).2.2.2.2.1 .u8 v1])),(4,.mem true 5 (some 0) (.flat [.ints (c1.getD default).2.2.2.2.2.2.1 .u8 v2])),(5,.mem true 5 (some 0) (.flat [.ints (c1.getD default).2.2.2.2.2.2.2.2.1 .u8 v3])),(6,.mem true 25 none (.flat [.cs [.int .i64 (c1.getD default).1,.sl 3 0 (c1.getD default).2.1 1,.sl 4 0 (c1.getD default).2.2.1 1,.sl 5 0 (c1.getD default).2.2.2.1 1]]))],7⟩) (.exit 2) (fun v3 hv => ?_) (fun hxs30 => ?_)
    .subst hv;clear hl
     refine rInHit (rInNormal (rThen (zReg md0 hX rfl rfl rfl ?_)))
     refine rRound ?_
     refine rSeq (zA hX ?_)
     refine rCondF rfl rfl zP rfl ?_
     refine rExit (rThenExit (rThenExit (rInHit (rThen (zA hX ?_)))))
     refine rRet ?_
     replace hT:=sIf hT;obtain⟨⟨p1,p2,p3⟩,hT⟩:=hT
     refine rFreezeQ 3 (.int .u8) v1 [(4,.v (.c (.ptr 2 0 0 0 0 0)))] [(2,.mem true 25 none (.flat [.cs [.int .i64 (c1.getD default).1,.fz (.int .u8) v1,.sl 4 0 (c1.getD default).2.2.1 1,.sl 5 0 (c1.getD default).2.2.2.1 1]])),(4,.mem true 5 (some 0) (.flat [.ints (c1.getD default).2.2.2.2.2.2.1 .u8 v2])),(5,.mem true 5 (some 0) (.flat [.ints (c1.getD default).2.2.2.2.2.2.2.2.1 .u8 v3]))] rfl rfl zF zF ?_
     refine rFreezeQ 4 (.int .u8) v2 [(4,.v (.c (.ptr 2 0 0 0 0 0)))] [(2,.mem true 25 none (.flat [.cs [.int .i64 (c1.getD default).1,.fz (.int .u8) v1,.fz (.int .u8) v2,.sl 5 0 (c1.getD default).2.2.2.1 1]])),(5,.mem true 5 (some 0) (.flat [.ints (c1.getD default).2.2.2.2.2.2.2.2.1 .u8 v3]))] rfl rfl zF zF ?_
     refine rFreezeQ 5 (.int .u8) v3 [(4,.v (.c (.ptr 2 0 0 0 0 0)))] [(2,.mem true 25 none (.flat [.cs [.int .i64 (c1.getD default).1,.fz (.int .u8) v1,.fz (.int .u8) v2,.fz (.int .u8) v3]]))] rfl rfl zF zF ?_
     refine rPackE 2 rfl rfl ?_
     have hy:=sJ hT;subst hy
     exact zEnd0 hX rfl
    refine rLoopM (ref34_Add_b1 N a2 a4 c1) (fun s3=>⟨[(2,.v (.c (.ptr 0 0 0 0 0 0))),(3,.v (.c (.ptr 1 0 0 0 0 0))),(4,.v (.c (.ptr 2 0 0 0 0 0))),(5,.v (.c (.ptr 6 0 0 0 0 0))),(6,.v (.c (.int .i64 2))),(7,.v (.c (.int .i64 s3.1)))],[(0,.mem true 25 none (.flat [.cs [.int .i64 a1],.fzs 3 (.int .u8) a2])),(1,.mem true 29 none (.flat [.cs [.int .i64 a3],.fzs 3 (.int .i64) a4])),(2,.mem true 25 none (.flat [.cs [.int .i64 0,.val (.slice none 0 0),.val (.slice none 0 0),.val (.slice none 0 0)]])),(3,.mem true 5 (some 0) (.flat [.ints (c1.getD default).2.2.2.2.1 .u8 v1])),(4,.mem true 5 (some 0) (.flat [.ints (c1.getD default).2.2.2.2.2.2.1 .u8 v2])),(5,.mem true 5 (some 0) (.flat [.ints (c1.getD default).2.2.2.2.2.2.2.2.1 .u8 s3.2])),(6,.mem true 25 none (.flat [.cs [.int .i64 (c1.getD default).1,.sl 3 0 (c1.getD default).2.1 1,.sl 4 0 (c1.getD default).2.2.1 1,.sl 5 0 (c1.getD default).2.2.2.1 1]]))],7⟩) hl (To.mk' [] 0 hε rfl zL zL) (fun s3 zs3 NNs3 hz hnexts3 houts3 => ?_)
    clear hl hT
    have hT:=hz;clear hz
    refine rSeq (zA hX ?_)
    refine zCond rfl rfl (fun hc => ?_) (fun hc => ?_)
    .replace hT:=sT hc hT
     refine rSkip (rThen (rSeq (rBlock ?_)))
     let c2:=(ref01_Clip N (((a2.getD 2 []).getD (s3.1).toNat 0)+((a4.getD 2 []).getD (s3.1).toNat 0)) 0 255)
     replace hT:=sIf hT;obtain⟨⟨o1,o2,o3,o4,o5,o6,o7,o8,o9⟩,hT⟩:=hT
     refine zDraw md0 1 [24] hX mixed rfl rfl rfl rfl rfl ?_
     refine rInNormal (rThen ?_)
     replace hT:=sIf hT;obtain⟨o1,hT⟩:=hT
     refine zReg md0 hX rfl rfl rfl ?_
     exact hnexts3 _ (sJ hT).symm _ (To.mk' [] 0 hε rfl zL zL)
    .replace hT:=sF hc hT
     refine rExit (rThenExit (rThenExit ?_))
     exact zTo [] 0 hε (hxs30 _ (houts3 _ (sJ hT).symm))
   refine rLoopM (ref34_Add_b2 N a2 a4 c1) (fun s2=>⟨[(2,.v (.c (.ptr 0 0 0 0 0 0))),(3,.v (.c (.ptr 1 0 0 0 0 0))),(4,.v (.c (.ptr 2 0 0 0 0 0))),(5,.v (.c (.ptr 6 0 0 0 0 0))),(6,.v (.c (.int .i64 1))),(7,.v (.c (.int .i64 s2.1)))],[(0,.mem true 25 none (.flat [.cs [.int .i64 a1],.fzs 3 (.int .u8) a2])),(1,.mem true 29 none (.flat [.cs [.int .i64 a3],.fzs 3 (.int .i64) a4])),(2,.mem true 25 none (.flat [.cs [.int .i64 0,.val (.slice none 0 0),.val (.slice none 0 0),.val (.slice none 0 0)]])),(3,.mem true 5 (some 0) (.flat [.ints (c1.getD default).2.2.2.2.1 .u8 v1])),(4,.mem true 5 (some 0) (.flat [.ints (c1.getD default).2.2.2.2.2.2.1 .u8 s2.2])),(5,.mem true 5 (some 0) (.flat [.ints (c1.getD default).2.2.2.2.2.2.2.2.1 .u8 (c1.getD default).2.2.2.2.2.2.2.2.2])),(6,.mem true 25 none (.flat [.cs [.int .i64 (c1.getD default).1,.sl 3 0 (c1.getD default).2.1 1,.sl 4 0 (c1.getD default).2.2.1 1,.sl 5 0 (c1.getD default).2.2.2.1 1]]))],7⟩) hl (To.mk' [] 0 hε rfl zL zL) (fun s2 zs2 NNs2 hz hnexts2 houts2 => ?_)
   clear hl hT
   have hT:=hz;clear hz
   refine rSeq (zA hX ?_)
   refine zCond rfl rfl (fun hc => ?_) (fun hc => ?_)
   .replace hT:=sT hc hT
    refine rSkip (rThen (rSeq (rBlock ?_)))
    let c3:=(ref01_Clip N (((a2.getD 1 []).getD (s2.1).toNat 0)+((a4.getD 1 []).getD (s2.1).toNat 0)) 0 255)
    replace hT:=sIf hT;obtain⟨⟨o1,o2,o3,o4,o5,o6,o7,o8,o9⟩,hT⟩:=hT
    refine zDraw md0 1 [24] hX mixed rfl rfl rfl rfl rfl ?_
    refine rInNormal (rThen ?_)
    replace hT:=sIf hT;obtain⟨o1,hT⟩:=hT
    refine zReg md0 hX rfl rfl rfl ?_
    exact hnexts2 _ (sJ hT).symm _ (To.mk' [] 0 hε rfl zL zL)
   .replace hT:=sF hc hT
    refine rExit (rThenExit (rThenExit ?_))
    exact zTo [] 0 hε (hxs20 _ (houts2 _ (sJ hT).symm))
  refine rLoopM (ref34_Add_b3 N a2 a4 c1) (fun s1=>⟨[(2,.v (.c (.ptr 0 0 0 0 0 0))),(3,.v (.c (.ptr 1 0 0 0 0 0))),(4,.v (.c (.ptr 2 0 0 0 0 0))),(5,.v (.c (.ptr 6 0 0 0 0 0))),(6,.v (.c (.int .i64 0))),(7,.v (.c (.int .i64 s1.1)))],[(0,.mem true 25 none (.flat [.cs [.int .i64 a1],.fzs 3 (.int .u8) a2])),(1,.mem true 29 none (.flat [.cs [.int .i64 a3],.fzs 3 (.int .i64) a4])),(2,.mem true 25 none (.flat [.cs [.int .i64 0,.val (.slice none 0 0),.val (.slice none 0 0),.val (.slice none 0 0)]])),(3,.mem true 5 (some 0) (.flat [.ints (c1.getD default).2.2.2.2.1 .u8 s1.2])),(4,.mem true 5 (some 0) (.flat [.ints (c1.getD default).2.2.2.2.2.2.1 .u8 (c1.getD default).2.2.2.2.2.2.2.1])),(5,.mem true 5 (some 0) (.flat [.ints (c1.getD default).2.2.2.2.2.2.2.2.1 .u8 (c1.getD default).2.2.2.2.2.2.2.2.2])),(6,.mem true 25 none (.flat [.cs [.int .i64 (c1.getD default).1,.sl 3 0 (c1.getD default).2.1 1,.sl 4 0 (c1.getD default).2.2.1 1,.sl 5 0 (c1.getD default).2.2.2.1 1]]))],7⟩) hl (To.mk' [] 0 hε rfl zL zL) (fun s1 zs1 NNs1 hz hnexts1 houts1 => ?_)
  clear hl hT
  have hT:=hz;clear hz
  refine rSeq (zA hX ?_)
  refine zCond rfl rfl (fun hc => ?_) (fun hc => ?_)
  .replace hT:=sT hc hT
   refine rSkip (rThen (rSeq (rBlock ?_)))
   let c4:=(ref01_Clip N (((a2.getD 0 []).getD (s1.1).toNat 0)+((a4.getD 0 []).getD (s1.1).toNat 0)) 0 255)
   replace hT:=sIf hT;obtain⟨⟨o1,o2,o3,o4,o5,o6,o7,o8,o9⟩,hT⟩:=hT
   refine zDraw md0 1 [24] hX mixed rfl rfl rfl rfl rfl ?_
   refine rInNormal (rThen ?_)
   replace hT:=sIf hT;obtain⟨o1,hT⟩:=hT
   refine zReg md0 hX rfl rfl rfl ?_
   exact hnexts1 _ (sJ hT).symm _ (To.mk' [] 0 hε rfl zL zL)
  .replace hT:=sF hc hT
   refine rExit (rThenExit (rThenExit ?_))
   exact zTo [] 0 hε (hxs10 _ (houts1 _ (sJ hT).symm))
 .cases h
def ref17_Place(N:Nat)(a1:Int)(a2:Int)(a3:Int)(a4:Int):Option (Int×Int×Int):=
 let c1:=(ref16_Across N a1)
 if c1.isSome=true/\(0:Int)<=a2/\(0:Int)<(c1.getD default)then
  let c2:=(ref16_Across N a1)
  if c2.isSome=true/\(0:Int)<=a2/\(0:Int)<(c2.getD default)then
   bif(decide (a3<4))then
    if inK .i64 ((16:Int)*(a2%(c1.getD default)))/\(0:Int)<=a3/\inK .i64 ((8:Int)*(a3%2))/\inK .i64 (((16:Int)*(a2%(c1.getD default)))+((8:Int)*(a3%2)))/\(0:Int)<=a4/\inK .i64 ((((16:Int)*(a2%(c1.getD default)))+((8:Int)*(a3%2)))+(a4%8))/\inK .i64 ((16:Int)*(a2/(c2.getD default)))/\inK .i64 ((8:Int)*(a3/2))/\inK .i64 (((16:Int)*(a2/(c2.getD default)))+((8:Int)*(a3/2)))/\inK .i64 ((((16:Int)*(a2/(c2.getD default)))+((8:Int)*(a3/2)))+(a4/8))then
     some (0,((((16:Int)*(a2%(c1.getD default)))+((8:Int)*(a3%2)))+(a4%8)),((((16:Int)*(a2/(c2.getD default)))+((8:Int)*(a3/2)))+(a4/8)))
    else none
   else
    if inK .i64 (a3-3)/\inK .i64 ((8:Int)*(a2%(c1.getD default)))/\(0:Int)<=a4/\inK .i64 (((8:Int)*(a2%(c1.getD default)))+(a4%8))/\inK .i64 ((8:Int)*(a2/(c2.getD default)))/\inK .i64 (((8:Int)*(a2/(c2.getD default)))+(a4/8))then
     some ((a3-3),(((8:Int)*(a2%(c1.getD default)))+(a4%8)),(((8:Int)*(a2/(c2.getD default)))+(a4/8)))
    else none
  else none
 else none
def sp_ref17_Place(N:Nat):X.Spec:=fun args lk=>match args with
 | [.v (.c (.int .i64 a1)),.v (.c (.int .i64 a2)),.v (.c (.int .i64 a3)),.v (.c (.int .i64 a4))]=>some ⟨(ref17_Place N a1 a2 a3 a4).isSome=true,.tup [.c (.int .i64 ((ref17_Place N a1 a2 a3 a4).getD default).1),.c (.int .i64 ((ref17_Place N a1 a2 a3 a4).getD default).2.1),.c (.int .i64 ((ref17_Place N a1 a2 a3 a4).getD default).2.2)],[],[]⟩
 | _=>none
theorem ok_ref17_Place(N:Nat):FnOK Tryz.prog gt0 85 (sp_ref17_Place N):=by
 refine fnOK_handed Tryz.func85 rfl (by kernel_rfl) tt_ok (ktCons (ok_ref16_Across N) (ktNil)) ?_
 intro args lk r h hp
 unfold sp_ref17_Place at h
 split at h
 .rename_i a1 a2 a3 a4
  cases h
  obtain⟨x,hT⟩:=sX hp;clear hp
  simp only[hT,Option.getD_some]
  refine hand0 rfl rfl fun w0 M ε0 hX=>rCount fun hε => ?_
  unfold ref17_Place at hT
  refine zA hX ?_
  let c1:=(ref16_Across N a1)
  replace hT:=sIf hT;obtain⟨⟨o1,o2,o3⟩,hT⟩:=hT
  refine zA hX ?_
  let c2:=(ref16_Across N a1)
  replace hT:=sIf hT;obtain⟨⟨o1,o2,o3⟩,hT⟩:=hT
  refine zA hX ?_
  refine rSeq (zA hX ?_)
  refine zCond rfl rfl (fun hc => ?_) (fun hc => ?_)
  .replace hT:=sT hc hT
   replace hT:=sIf hT;obtain⟨⟨o1,o2,o3,o4,o5,o6,o7,o8,o9,o10⟩,hT⟩:=hT
   refine zA hX ?_
   refine rRet (rThenRet ?_)
   have hy:=sJ hT;subst hy
   exact zEnd0 hX rfl
  .replace hT:=sF hc hT
   refine rSkip (rThen ?_)
   replace hT:=sIf hT;obtain⟨⟨o1,o2,o3,o4,o5,o6⟩,hT⟩:=hT
   refine zA hX ?_
   refine rRet ?_
   have hy:=sJ hT;subst hy
   exact zEnd0 hX rfl
 .cases h
def ref17_At(N:Nat)(a1:Int) (a2:(List (List Int))) (a3:Int) (a4:Int) (a5:Int):Option Int:=
 let c1:=(ref17_Wide N a1 a3)
 if(0:Int)<=a3/\a3<3/\(a3).toNat<3/\c1.isSome=true/\inK .i64 (a5*(c1.getD default))/\inK .i64 ((a5*(c1.getD default))+a4)/\(0:Int)<=((a5*(c1.getD default))+a4)/\((a5*(c1.getD default))+a4)<((a2.getD (a3).toNat []).length:Int)/\inK .i64 ((a2.getD (a3).toNat []).getD ((a5*(c1.getD default))+a4).toNat 0)then
  some ((a2.getD (a3).toNat []).getD ((a5*(c1.getD default))+a4).toNat 0)
 else none
def sp_ref17_At(N:Nat):X.Spec:=fun args lk=>match args with
 | [.v (.agg [.cs [.int .i64 a1],.fzs 3 (.int .u8) a2]),.v (.c (.int .i64 a3)),.v (.c (.int .i64 a4)),.v (.c (.int .i64 a5))]=>some ⟨(ref17_At N a1 a2 a3 a4 a5).isSome=true,.v (.c (.int .i64 ((ref17_At N a1 a2 a3 a4 a5).getD default))),[],[]⟩
 | _=>none
theorem ok_ref17_At(N:Nat):FnOK Tryz.prog gt0 115 (sp_ref17_At N):=by
 refine fnOK_handed Tryz.func115 rfl (by kernel_rfl) tt_ok (ktCons (ok_ref17_Wide N) (ktNil)) ?_
 intro args lk r h hp
 unfold sp_ref17_At at h
 split at h
 .rename_i a1 a2 a3 a4 a5
  change (List (List Int))at a2
  cases h
  obtain⟨x,hT⟩:=sX hp;clear hp
  simp only[hT,Option.getD_some]
  refine hand0 rfl rfl fun w0 M ε0 hX=>rCount fun hε => ?_
  unfold ref17_At at hT
  refine zA hX ?_
  let c1:=(ref17_Wide N a1 a3)
  replace hT:=sIf hT;obtain⟨⟨o1,o2,o3,o4,o5,o6,o7,o8,o9⟩,hT⟩:=hT
  refine rSeq (zDraw md0 0 [] hX mixed rfl rfl rfl rfl rfl ?_)
  refine rThen (rRet ?_)
  have hy:=sJ hT;subst hy
  exact zEnd0 hX rfl
 .cases h
def ref18_At_b1(N:Nat)(a1:Int) (a2:(List (List Int))) (a3:Int) (a4:Int) (a5:Int) (s1:(Int×Int)):Option ((Int×Int)⊕Int):=
 bif(decide (s1.2<4))then
  let c1:=(ref17_At N a1 a2 a3 ((a4/2)+((a4%2)*(s1.2%2))) ((a5/2)+((a5%2)*(s1.2/2))))
  if(0:Int)<=a4/\(0:Int)<=s1.2/\inK .i64 ((a4%2)*(s1.2%2))/\inK .i64 ((a4/2)+((a4%2)*(s1.2%2)))/\(0:Int)<=a5/\inK .i64 ((a5%2)*(s1.2/2))/\inK .i64 ((a5/2)+((a5%2)*(s1.2/2)))/\c1.isSome=true/\inK .i64 (s1.1+(c1.getD default))then
   if inK .i64 (s1.2+1)then
    some (.inl ((s1.1+(c1.getD default)),(s1.2+1)))
   else none
  else none
 else
  some (.inr s1.1)
def ref18_At(N:Nat)(a1:Int) (a2:(List (List Int))) (a3:Int) (a4:Int) (a5:Int):Option Int:=
 if(0:Int)<=a4 then
  if(0:Int)<=a5 then
   (iter (ref18_At_b1 N a1 a2 a3 a4 a5) N (0,0)).bind fun v1=>
    if inK .i64 (v1+2)/\(0:Int)<=(v1+2)then
     some ((v1+2)/4)
    else none
  else none
 else none
def sp_ref18_At(N:Nat):X.Spec:=fun args lk=>match args with
 | [.v (.agg [.cs [.int .i64 a1],.fzs 3 (.int .u8) a2]),.v (.c (.int .i64 a3)),.v (.c (.int .i64 a4)),.v (.c (.int .i64 a5))]=>some ⟨(ref18_At N a1 a2 a3 a4 a5).isSome=true,.v (.c (.int .i64 ((ref18_At N a1 a2 a3 a4 a5).getD default))),[],[]⟩
 | _=>none
theorem ok_ref18_At(N:Nat):FnOK Tryz.prog gt0 86 (sp_ref18_At N):=by
 refine fnOK_handed Tryz.func86 rfl (by kernel_rfl) tt_ok (ktCons (ok_ref17_At N) (ktNil)) ?_
 intro args lk r h hp
 unfold sp_ref18_At at h
 split at h
 .rename_i a1 a2 a3 a4 a5
  change (List (List Int))at a2
  cases h
  obtain⟨x,hT⟩:=sX hp;clear hp
  simp only[hT,Option.getD_some]
  refine hand0 rfl rfl fun w0 M ε0 hX=>rCount fun hε => ?_
  unfold ref18_At at hT
  refine zA hX ?_
  replace hT:=sIf hT;obtain⟨o1,hT⟩:=hT
  refine zA hX ?_
  replace hT:=sIf hT;obtain⟨o1,hT⟩:=hT
  refine zA hX ?_
  refine zA hX ?_
  refine rSeq (zA hX ?_)
  refine rBlock ?_
  replace hT:=sBind hT;obtain⟨w1,hl,hT⟩:=hT
  refine rJoinA (fun v1=>v1=w1) (fun v1=>⟨[(8,.v (.c (.int .i64 0))),(11,.v (.c (.int .i64 v1)))],[],1⟩) (.exit 0) (fun v1 hv => ?_) (fun hxs10 => ?_)
  .subst hv;clear hl
   refine rInHit (rThen ?_)
   replace hT:=sIf hT;obtain⟨⟨o1,o2⟩,hT⟩:=hT
   refine zA hX ?_
   refine rRet ?_
   have hy:=sJ hT;subst hy
   exact zEnd0 hX rfl
  refine rLoopM (ref18_At_b1 N a1 a2 a3 a4 a5) (fun s1=>⟨[(1,.v (.c (.int .i64 a3))),(2,.v (.c (.int .i64 a4))),(3,.v (.c (.int .i64 a5))),(4,.v (.c (.ptr 0 0 0 0 0 0))),(8,.v (.c (.int .i64 0))),(9,.v (.c (.int .i64 (a4/2)))),(10,.v (.c (.int .i64 (a5/2)))),(11,.v (.c (.int .i64 s1.1))),(12,.v (.c (.int .i64 s1.2)))],[(0,.mem true 25 none (.flat [.cs [.int .i64 a1],.fzs 3 (.int .u8) a2]))],1⟩) hl (To.mk' [] 0 hε rfl zL zL) (fun s1 zs1 NNs1 hz hnexts1 houts1 => ?_)
  clear hl hT
  have hT:=hz;clear hz
  refine rSeq (zA hX ?_)
  refine zCond rfl rfl (fun hc => ?_) (fun hc => ?_)
  .replace hT:=sT hc hT
   refine rSkip (rThen (rSeq (rBlock ?_)))
   let c1:=(ref17_At N a1 a2 a3 ((a4/2)+((a4%2)*(s1.2%2))) ((a5/2)+((a5%2)*(s1.2/2))))
   replace hT:=sIf hT;obtain⟨⟨o1,o2,o3,o4,o5,o6,o7,o8,o9⟩,hT⟩:=hT
   refine zReg md0 hX rfl rfl rfl ?_
   refine rInNormal (rThen ?_)
   replace hT:=sIf hT;obtain⟨o1,hT⟩:=hT
   refine zReg md0 hX rfl rfl rfl ?_
   exact hnexts1 _ (sJ hT).symm _ (To.mk' [] 0 hε rfl zL zL)
  .replace hT:=sF hc hT
   refine rExit (rThenExit (rThenExit ?_))
   exact zTo [] 0 hε (hxs10 _ (houts1 _ (sJ hT).symm))
 .cases h
def ref18_Chroma_v1_b1(N:Nat)(c1:(Option Int))(s1:Int):Option (Int⊕Int):=
 if(0:Int)<=s1/\inK .i64 ((4:Int)*(s1/2))/\inK .i64 (((4:Int)*(s1/2))+4)then
  bif(decide ((((4:Int)*(s1/2))+4)<=(c1.getD default)))then
   if inK .i64 (s1+2)then
    some (.inl (s1+2))
   else none
  else
   some (.inr s1)
 else none
def ref18_Chroma_v1(N:Nat)(a1:Int):Option Int:=
 let c1:=(ref01_Clip N a1 (-64) 64)
 if c1.isSome=true then
  bif(decide ((c1.getD default)<0))then
   none
  else
   (iter (ref18_Chroma_v1_b1 N c1) N 0).bind fun v1=>
    if(0:Int)<=(c1.getD default)then
     if((decide (((c1.getD default)%4)≠0))=true->inK .i64 (v1+1))then
      some (bif(decide (((c1.getD default)%4)≠0))then(v1+1)else v1)
     else none
    else none
 else none
def sp_ref18_Chroma_v1(N:Nat):X.Spec:=fun args lk=>match args with
 | [.v (.c (.int .i64 a1))]=>some ⟨(ref18_Chroma_v1 N a1).isSome=true,.v (.c (.int .i64 ((ref18_Chroma_v1 N a1).getD default))),[],[]⟩
 | _=>none
theorem ok_ref18_Chroma_v1(N:Nat):FnOK Tryz.prog gt0 87 (sp_ref18_Chroma_v1 N):=by
 refine fnOK_handed Tryz.func87 rfl (by kernel_rfl) tt_ok (ktCons (ok_ref01_Clip N) (ktNil)) ?_
 intro args lk r h hp
 unfold sp_ref18_Chroma_v1 at h
 split at h
 .rename_i a1
  cases h
  obtain⟨x,hT⟩:=sX hp;clear hp
  simp only[hT,Option.getD_some]
  refine hand0 rfl rfl fun w0 M ε0 hX=>rCount fun hε => ?_
  unfold ref18_Chroma_v1 at hT
  refine zA hX ?_
  let c1:=(ref01_Clip N a1 (-64) 64)
  replace hT:=sIf hT;obtain⟨o1,hT⟩:=hT
  refine zA hX ?_
  refine rSeq (zA hX ?_)
  refine zCond rfl rfl (fun hc => ?_) (fun hc => ?_)
  .replace hT:=sT hc hT
   refine rSeq ?_
   cases hT
  .replace hT:=sF hc hT
   refine rSkip (rThen (zA hX ?_))
   refine rSeq (rBlock ?_)
   replace hT:=sBind hT;obtain⟨w1,hl,hT⟩:=hT
   refine rJoinA (fun v1=>v1=w1) (fun v1=>⟨[(0,.v (.c (.int .i64 (c1.getD default)))),(2,.v (.c (.int .i64 0))),(3,.v (.c (.int .i64 v1)))],[],0⟩) (.exit 0) (fun v1 hv => ?_) (fun hxs10 => ?_)
   .subst hv;clear hl
    refine rInHit (rThen (rSeq ?_))
    replace hT:=sIf hT;obtain⟨o1,hT⟩:=hT
    refine zA hX ?_
    replace hT:=sIf hT;obtain⟨q1,hT⟩:=hT
    refine rJoin ⟨[(2,.v (.c (.int .i64 0))),(3,.v (.c (.int .i64 (bif(decide (((c1.getD default)%4)≠0))then(v1+1)else v1))))],[],0⟩ ?_ (fun hj => ?_)
    .refine rThen (zA hX ?_)
     refine rRet ?_
     have hy:=sJ hT;subst hy
     exact zEnd0 hX rfl
    .clear hT
     refine zCond rfl rfl (fun hc => ?_) (fun hc => ?_)
     .have q1:=q1 hc
      refine zReg md0 hX rfl rfl rfl ?_
      exact rTo (To.mk' [] 0 hε rfl zJ zJ) hj
     .refine rSkip ?_
      exact rTo (To.mk' [] 0 hε rfl zJ zJ) hj
   refine rLoopM (ref18_Chroma_v1_b1 N c1) (fun s1=>⟨[(0,.v (.c (.int .i64 (c1.getD default)))),(2,.v (.c (.int .i64 0))),(3,.v (.c (.int .i64 s1)))],[],0⟩) hl (To.mk' [] 0 hε rfl zL zL) (fun s1 zs1 NNs1 hz hnexts1 houts1 => ?_)
   clear hl hT
   have hT:=hz;clear hz
   refine rSeq ?_
   replace hT:=sIf hT;obtain⟨⟨o1,o2,o3⟩,hT⟩:=hT
   refine zA hX ?_
   refine zCond rfl rfl (fun hc => ?_) (fun hc => ?_)
   .replace hT:=sT hc hT
    refine rSkip (rThen (rBlock ?_))
    replace hT:=sIf hT;obtain⟨o1,hT⟩:=hT
    refine zReg md0 hX rfl rfl rfl ?_
    refine rInNormal ?_
    exact hnexts1 _ (sJ hT).symm _ (To.mk' [] 0 hε rfl zL zL)
   .replace hT:=sF hc hT
    refine rExit (rThenExit (rThenExit ?_))
    exact zTo [] 0 hε (hxs10 _ (houts1 _ (sJ hT).symm))
 .cases h
def ref18_Chroma_b1(N:Nat)(c1:(Option Int))(s1:Int):Option (Int⊕Int):=
 if(0:Int)<=s1/\inK .i64 ((4:Int)*(s1/2))/\inK .i64 (((4:Int)*(s1/2))+4)then
  bif(decide ((((4:Int)*(s1/2))+4)<=(c1.getD default)))then
   if inK .i64 (s1+2)then
    some (.inl (s1+2))
   else none
  else
   some (.inr s1)
 else none
def ref18_Chroma(N:Nat)(a1:Int):Option Int:=
 let c1:=(ref01_Clip N a1 (-64) 64)
 if c1.isSome=true then
  bif(decide ((c1.getD default)<0))then
   let c2:=(ref18_Chroma_v1 N (-(c1.getD default)))
   if inK .i64 (-(c1.getD default))/\c2.isSome=true/\inK .i64 (-(c2.getD default))then
    some (-(c2.getD default))
   else none
  else
   (iter (ref18_Chroma_b1 N c1) N 0).bind fun v1=>
    if(0:Int)<=(c1.getD default)then
     if((decide (((c1.getD default)%4)≠0))=true->inK .i64 (v1+1))then
      some (bif(decide (((c1.getD default)%4)≠0))then(v1+1)else v1)
     else none
    else none
 else none
def sp_ref18_Chroma(N:Nat):X.Spec:=fun args lk=>match args with
 | [.v (.c (.int .i64 a1))]=>some ⟨(ref18_Chroma N a1).isSome=true,.v (.c (.int .i64 ((ref18_Chroma N a1).getD default))),[],[]⟩
 | _=>none
theorem ok_ref18_Chroma(N:Nat):FnOK Tryz.prog gt0 87 (sp_ref18_Chroma N):=by
 refine fnOK_handed Tryz.func87 rfl (by kernel_rfl) tt_ok (ktCons (ok_ref18_Chroma_v1 N) (ktCons (ok_ref01_Clip N) (ktNil))) ?_
 intro args lk r h hp
 unfold sp_ref18_Chroma at h
 split at h
 .rename_i a1
  cases h
  obtain⟨x,hT⟩:=sX hp;clear hp
  simp only[hT,Option.getD_some]
  refine hand0 rfl rfl fun w0 M ε0 hX=>rCount fun hε => ?_
  unfold ref18_Chroma at hT
  refine zA hX ?_
  let c1:=(ref01_Clip N a1 (-64) 64)
  replace hT:=sIf hT;obtain⟨o1,hT⟩:=hT
  refine zA hX ?_
  refine rSeq (zA hX ?_)
  refine zCond rfl rfl (fun hc => ?_) (fun hc => ?_)
  .replace hT:=sT hc hT
   let c2:=(ref18_Chroma_v1 N (-(c1.getD default)))
   replace hT:=sIf hT;obtain⟨⟨o1,o2,o3⟩,hT⟩:=hT
   refine zA hX ?_
   refine rRet (rThenRet ?_)
   have hy:=sJ hT;subst hy
   exact zEnd0 hX rfl
  .replace hT:=sF hc hT
   refine rSkip (rThen (zA hX ?_))
   refine rSeq (rBlock ?_)
   replace hT:=sBind hT;obtain⟨w1,hl,hT⟩:=hT
   refine rJoinA (fun v1=>v1=w1) (fun v1=>⟨[(0,.v (.c (.int .i64 (c1.getD default)))),(2,.v (.c (.int .i64 0))),(3,.v (.c (.int .i64 v1)))],[],0⟩) (.exit 0) (fun v1 hv => ?_) (fun hxs10 => ?_)
   .subst hv;clear hl
    refine rInHit (rThen (rSeq ?_))
    replace hT:=sIf hT;obtain⟨o1,hT⟩:=hT
    refine zA hX ?_
    replace hT:=sIf hT;obtain⟨q1,hT⟩:=hT
    refine rJoin ⟨[(2,.v (.c (.int .i64 0))),(3,.v (.c (.int .i64 (bif(decide (((c1.getD default)%4)≠0))then(v1+1)else v1))))],[],0⟩ ?_ (fun hj => ?_)
    .refine rThen (zA hX ?_)
     refine rRet ?_
     have hy:=sJ hT;subst hy
     exact zEnd0 hX rfl
    .clear hT
     refine zCond rfl rfl (fun hc => ?_) (fun hc => ?_)
     .have q1:=q1 hc
      refine zReg md0 hX rfl rfl rfl ?_
      exact rTo (To.mk' [] 0 hε rfl zJ zJ) hj
     .refine rSkip ?_
      exact rTo (To.mk' [] 0 hε rfl zJ zJ) hj
   refine rLoopM (ref18_Chroma_b1 N c1) (fun s1=>⟨[(0,.v (.c (.int .i64 (c1.getD default)))),(2,.v (.c (.int .i64 0))),(3,.v (.c (.int .i64 s1)))],[],0⟩) hl (To.mk' [] 0 hε rfl zL zL) (fun s1 zs1 NNs1 hz hnexts1 houts1 => ?_)
   clear hl hT
   have hT:=hz;clear hz
   refine rSeq ?_
   replace hT:=sIf hT;obtain⟨⟨o1,o2,o3⟩,hT⟩:=hT
   refine zA hX ?_
   refine zCond rfl rfl (fun hc => ?_) (fun hc => ?_)
   .replace hT:=sT hc hT
    refine rSkip (rThen (rBlock ?_))
    replace hT:=sIf hT;obtain⟨o1,hT⟩:=hT
    refine zReg md0 hX rfl rfl rfl ?_
    refine rInNormal ?_
    exact hnexts1 _ (sJ hT).symm _ (To.mk' [] 0 hε rfl zL zL)
   .replace hT:=sF hc hT
    refine rExit (rThenExit (rThenExit ?_))
    exact zTo [] 0 hε (hxs10 _ (houts1 _ (sJ hT).symm))
 .cases h
def ref18_Predict_b2(N:Nat)(a1:Int) (a2:(List (List Int))) (a3:Int) (a4:(List Int)) (s1:(Int×(List Int))) (s2:(Int×(List Int))):Option ((Int×(List Int))⊕Zt13):=
 bif(decide (s2.1<64))then
  let c1:=(ref17_Place N a1 a3 s1.1 s2.1)
  if c1.isSome=true then
   let c2:=(ref18_At N a1 a2 (c1.getD default).1 (((2:Int)*(c1.getD default).2.1)+(a4.getD 0 0)) (((2:Int)*(c1.getD default).2.2)+(a4.getD 1 0)))
   let c3:=(ref18_Chroma N (a4.getD 0 0))
   let c4:=(ref18_Chroma N (a4.getD 1 0))
   let c5:=(ref18_At N a1 a2 (c1.getD default).1 (((2:Int)*(c1.getD default).2.1)+(c3.getD default)) (((2:Int)*(c1.getD default).2.2)+(c4.getD default)))
   if((decide ((c1.getD default).1=0))=true->inK .i64 ((2:Int)*(c1.getD default).2.1))/\((decide ((c1.getD default).1=0))=true->inK .i64 (((2:Int)*(c1.getD default).2.1)+(a4.getD 0 0)))/\((decide ((c1.getD default).1=0))=true->inK .i64 ((2:Int)*(c1.getD default).2.2))/\((decide ((c1.getD default).1=0))=true->inK .i64 (((2:Int)*(c1.getD default).2.2)+(a4.getD 1 0)))/\((decide ((c1.getD default).1=0))=true->c2.isSome=true)/\((decide ((c1.getD default).1=0))=true->(0:Int)<=s1.1)/\((decide ((c1.getD default).1=0))=true->s1.1<6)/\((decide ((c1.getD default).1=0))=true->(0:Int)<=s2.1)/\((decide ((c1.getD default).1=0))=true->s2.1<64)/\((decide ((c1.getD default).1=0))=true->((s1.1).toNat*64+(s2.1).toNat)<384)/\((decide ((c1.getD default).1=0))=false->inK .i64 ((2:Int)*(c1.getD default).2.1))/\((decide ((c1.getD default).1=0))=false->c3.isSome=true)/\((decide ((c1.getD default).1=0))=false->inK .i64 (((2:Int)*(c1.getD default).2.1)+(c3.getD default)))/\((decide ((c1.getD default).1=0))=false->inK .i64 ((2:Int)*(c1.getD default).2.2))/\((decide ((c1.getD default).1=0))=false->c4.isSome=true)/\((decide ((c1.getD default).1=0))=false->inK .i64 (((2:Int)*(c1.getD default).2.2)+(c4.getD default)))/\((decide ((c1.getD default).1=0))=false->c5.isSome=true)/\((decide ((c1.getD default).1=0))=false->(0:Int)<=s1.1)/\((decide ((c1.getD default).1=0))=false->s1.1<6)/\((decide ((c1.getD default).1=0))=false->(0:Int)<=s2.1)/\((decide ((c1.getD default).1=0))=false->s2.1<64)/\((decide ((c1.getD default).1=0))=false->((s1.1).toNat*64+(s2.1).toNat)<384)then
    let x1:=(bif(decide ((c1.getD default).1=0))then(s2.2.set ((s1.1).toNat*64+(s2.1).toNat) (c2.getD default))else(s2.2.set ((s1.1).toNat*64+(s2.1).toNat) (c5.getD default)))
    if inK .i64 (s2.1+1)then
     some (.inl ((s2.1+1),x1))
    else none
   else none
  else none
 else
  some (.inr (s2.1,s2.1,(decide (s2.1<64)),s2.2))
def ref18_Predict_b1(N:Nat)(a1:Int) (a2:(List (List Int))) (a3:Int) (a4:(List Int)) (s1:(Int×(List Int))):Option ((Int×(List Int))⊕(List Int)):=
 bif(decide (s1.1<6))then
  (iter (ref18_Predict_b2 N a1 a2 a3 a4 s1) N (0,s1.2)).bind fun v2=>
   if inK .i64 (s1.1+1)then
    some (.inl ((s1.1+1),v2.2.2.2))
   else none
 else
  some (.inr s1.2)
def ref18_Predict(N:Nat)(a1:Int) (a2:(List (List Int))) (a3:Int) (a4:(List Int)):Option (List Int):=
 (iter (ref18_Predict_b1 N a1 a2 a3 a4) N (0,(List.replicate 384 0))).bind fun v1=>
  some v1
def sp_ref18_Predict(N:Nat):X.Spec:=fun args lk=>match args with
 | [.v (.agg [.cs [.int .i64 a1],.fzs 3 (.int .u8) a2]),.v (.c (.int .i64 a3)),.v (.agg [.ints 2 .i64 a4])]=>some ⟨(ref18_Predict N a1 a2 a3 a4).isSome=true,.v (.agg [.ints 384 .i64 ((ref18_Predict N a1 a2 a3 a4).getD default)]),[],[]⟩
 | _=>none
theorem ok_ref18_Predict(N:Nat):FnOK Tryz.prog gt0 54 (sp_ref18_Predict N):=by
 refine fnOK_handed Tryz.func54 rfl (by kernel_rfl) tt_ok (ktCons (ok_ref18_Chroma N) (ktCons (ok_ref18_At N) (ktCons (ok_ref17_Place N) (ktNil)))) ?_
 intro args lk r h hp
 unfold sp_ref18_Predict at h
 split at h
 .rename_i a1 a2 a3 a4
  change (List (List Int))at a2
  change (List Int)at a4
  cases h
  obtain⟨x,hT⟩:=sX hp;clear hp
  simp only[hT,Option.getD_some]
  refine hand0 rfl rfl fun w0 M ε0 hX=>rCount fun hε => ?_
  unfold ref18_Predict at hT
  refine zA hX ?_
  refine zA hX ?_
  refine rSeq (zA hX ?_)
  refine rBlock ?_
  replace hT:=sBind hT;obtain⟨w1,hl,hT⟩:=hT
  refine rJoinA (fun v1=>v1=w1) (fun v1=>⟨[(6,.v (.c (.ptr 2 0 0 0 0 0))),(7,.v (.c (.ptr 3 0 0 0 0 0)))],[(2,.mem true 64 none (.flat [.ints 384 .i64 (List.replicate 384 0)])),(3,.mem true 64 none (.flat [.ints 384 .i64 v1]))],4⟩) (.exit 0) (fun v1 hv => ?_) (fun hxs10 => ?_)
  .subst hv;clear hl
   refine rInHit (rThen (zA hX ?_))
   refine rRet ?_
   have hy:=sJ hT;subst hy
   exact zEnd0 hX rfl
  refine rLoopM (ref18_Predict_b1 N a1 a2 a3 a4) (fun s1=>⟨[(1,.v (.c (.int .i64 a3))),(3,.v (.c (.ptr 0 0 0 0 0 0))),(5,.v (.c (.ptr 1 0 0 0 0 0))),(6,.v (.c (.ptr 2 0 0 0 0 0))),(7,.v (.c (.ptr 3 0 0 0 0 0))),(8,.v (.c (.int .i64 s1.1)))],[(0,.mem true 25 none (.flat [.cs [.int .i64 a1],.fzs 3 (.int .u8) a2])),(1,.mem true 30 none (.flat [.ints 2 .i64 a4])),(2,.mem true 64 none (.flat [.ints 384 .i64 (List.replicate 384 0)])),(3,.mem true 64 none (.flat [.ints 384 .i64 s1.2]))],4⟩) hl (To.mk' [] 0 hε rfl zL zL) (fun s1 zs1 NNs1 hz hnexts1 houts1 => ?_)
  clear hl hT
  have hT:=hz;clear hz
  refine rSeq (zA hX ?_)
  refine zCond rfl rfl (fun hc => ?_) (fun hc => ?_)
  .replace hT:=sT hc hT
   refine rSkip (rThen (rSeq (rBlock (zA hX ?_))))
   refine rBlock ?_
   replace hT:=sBind hT;obtain⟨w2,hl,hT⟩:=hT
   refine rJoinA (fun v2=>v2=w2) (fun v2=>⟨[(1,.v (.c (.int .i64 a3))),(3,.v (.c (.ptr 0 0 0 0 0 0))),(5,.v (.c (.ptr 1 0 0 0 0 0))),(6,.v (.c (.ptr 2 0 0 0 0 0))),(7,.v (.c (.ptr 3 0 0 0 0 0))),(8,.v (.c (.int .i64 s1.1))),(9,.v (.c (.int .i64 v2.1))),(13,.v (.c (.int .i64 s1.1))),(14,.v (.c (.bool (decide (s1.1<6))))),(17,.v (.c (.int .i64 v2.2.1))),(18,.v (.c (.bool v2.2.2.1)))],[(0,.mem true 25 none (.flat [.cs [.int .i64 a1],.fzs 3 (.int .u8) a2])),(1,.mem true 30 none (.flat [.ints 2 .i64 a4])),(2,.mem true 64 none (.flat [.ints 384 .i64 (List.replicate 384 0)])),(3,.mem true 64 none (.flat [.ints 384 .i64 v2.2.2.2]))],4⟩) (.exit 2) (fun v2 hv => ?_) (fun hxs20 => ?_)
   .subst hv;clear hl
    refine rInHit (rInNormal (rThen ?_))
    replace hT:=sIf hT;obtain⟨o1,hT⟩:=hT
    refine zReg md0 hX rfl rfl rfl ?_
    exact hnexts1 _ (sJ hT).symm _ (To.mk' [] 0 hε rfl zL zL)
   refine rLoopM (ref18_Predict_b2 N a1 a2 a3 a4 s1) (fun s2=>⟨[(1,.v (.c (.int .i64 a3))),(3,.v (.c (.ptr 0 0 0 0 0 0))),(5,.v (.c (.ptr 1 0 0 0 0 0))),(6,.v (.c (.ptr 2 0 0 0 0 0))),(7,.v (.c (.ptr 3 0 0 0 0 0))),(8,.v (.c (.int .i64 s1.1))),(9,.v (.c (.int .i64 s2.1))),(13,.v (.c (.int .i64 s1.1))),(14,.v (.c (.bool (decide (s1.1<6)))))],[(0,.mem true 25 none (.flat [.cs [.int .i64 a1],.fzs 3 (.int .u8) a2])),(1,.mem true 30 none (.flat [.ints 2 .i64 a4])),(2,.mem true 64 none (.flat [.ints 384 .i64 (List.replicate 384 0)])),(3,.mem true 64 none (.flat [.ints 384 .i64 s2.2]))],4⟩) hl (To.mk' [] 0 hε rfl zL zL) (fun s2 zs2 NNs2 hz hnexts2 houts2 => ?_)
   clear hl hT
   have hT:=hz;clear hz
   refine rSeq (zA hX ?_)
   refine zCond rfl rfl (fun hc => ?_) (fun hc => ?_)
   .replace hT:=sT hc hT
    refine rSkip (rThen (rSeq (rBlock ?_)))
    let c1:=(ref17_Place N a1 a3 s1.1 s2.1)
    replace hT:=sIf hT;obtain⟨o1,hT⟩:=hT
    refine zA hX ?_
    refine zA hX ?_
    let c2:=(ref18_At N a1 a2 (c1.getD default).1 (((2:Int)*(c1.getD default).2.1)+(a4.getD 0 0)) (((2:Int)*(c1.getD default).2.2)+(a4.getD 1 0)))
    let c3:=(ref18_Chroma N (a4.getD 0 0))
    let c4:=(ref18_Chroma N (a4.getD 1 0))
    let c5:=(ref18_At N a1 a2 (c1.getD default).1 (((2:Int)*(c1.getD default).2.1)+(c3.getD default)) (((2:Int)*(c1.getD default).2.2)+(c4.getD default)))
    replace hT:=sIf hT;obtain⟨⟨q1,q2,q3,q4,q5,q6,q7,q8,q9,q10,q11,q12,q13,q14,q15,q16,q17,q18,q19,q20,q21,q22⟩,hT⟩:=hT
    refine rJoin ⟨[(1,.v (.c (.int .i64 a3))),(3,.v (.c (.ptr 0 0 0 0 0 0))),(5,.v (.c (.ptr 1 0 0 0 0 0))),(6,.v (.c (.ptr 2 0 0 0 0 0))),(7,.v (.c (.ptr 3 0 0 0 0 0))),(8,.v (.c (.int .i64 s1.1))),(9,.v (.c (.int .i64 s2.1))),(10,.v (.c (.int .i64 (c1.getD default).1))),(11,.v (.c (.int .i64 (c1.getD default).2.1))),(12,.v (.c (.int .i64 (c1.getD default).2.2))),(13,.v (.c (.int .i64 s1.1))),(14,.v (.c (.bool (decide (s1.1<6))))),(17,.v (.c (.int .i64 s2.1))),(18,.v (.c (.bool (decide (s2.1<64))))),(21,.tup [.c (.int .i64 (c1.getD default).1),.c (.int .i64 (c1.getD default).2.1),.c (.int .i64 (c1.getD default).2.2)]),(22,.v (.c (.ptr 0 0 0 0 0 0))),(23,.v (.c (.int .i64 a1))),(24,.v (.c (.int .i64 a3))),(25,.v (.c (.int .i64 s1.1))),(26,.v (.c (.int .i64 s2.1))),(27,.tup [.c (.int .i64 (c1.getD default).1),.c (.int .i64 (c1.getD default).2.1),.c (.int .i64 (c1.getD default).2.2)]),(28,.v (.c (.int .i64 (c1.getD default).1))),(29,.v (.c (.int .i64 (c1.getD default).2.1))),(30,.v (.c (.int .i64 (c1.getD default).2.2))),(31,.v (.c (.int .i64 (c1.getD default).1))),(32,.v (.c (.bool (decide ((c1.getD default).1=0)))))],[(0,.mem true 25 none (.flat [.cs [.int .i64 a1],.fzs 3 (.int .u8) a2])),(1,.mem true 30 none (.flat [.ints 2 .i64 a4])),(2,.mem true 64 none (.flat [.ints 384 .i64 (List.replicate 384 0)])),(3,.mem true 64 none (.flat [.ints 384 .i64 (bif(decide ((c1.getD default).1=0))then(s2.2.set ((s1.1).toNat*64+(s2.1).toNat) (c2.getD default))else(s2.2.set ((s1.1).toNat*64+(s2.1).toNat) (c5.getD default)))]))],4⟩ ?_ (fun hj => ?_)
    .let x1:=(bif(decide ((c1.getD default).1=0))then(s2.2.set ((s1.1).toNat*64+(s2.1).toNat) (c2.getD default))else(s2.2.set ((s1.1).toNat*64+(s2.1).toNat) (c5.getD default)))
     refine rInNormal (rThen ?_)
     replace hT:=sIf hT;obtain⟨o1,hT⟩:=hT
     refine zReg md0 hX rfl rfl rfl ?_
     exact hnexts2 _ (sJ hT).symm _ (To.mk' [] 0 hε rfl zL zL)
    .clear hT
     refine zCond rfl rfl (fun hc => ?_) (fun hc => ?_)
     .have q1:=q1 hc
      have q2:=q2 hc
      have q3:=q3 hc
      have q4:=q4 hc
      have q5:=q5 hc
      have q6:=q6 hc
      have q7:=q7 hc
      have q8:=q8 hc
      have q9:=q9 hc
      have q10:=q10 hc
      refine zDraw md0 1 [17] hX mixed rfl rfl rfl rfl rfl ?_
      exact rTo (To.mk' [] 0 hε rfl zJ zJ) hj
     .have q11:=q11 hc
      have q12:=q12 hc
      have q13:=q13 hc
      have q14:=q14 hc
      have q15:=q15 hc
      have q16:=q16 hc
      have q17:=q17 hc
      have q18:=q18 hc
      have q19:=q19 hc
      have q20:=q20 hc
      have q21:=q21 hc
      have q22:=q22 hc
      refine zDraw md0 1 [19] hX mixed rfl rfl rfl rfl rfl ?_
      exact rTo (To.mk' [] 0 hε rfl zJ zJ) hj
   .replace hT:=sF hc hT
    refine rExit (rThenExit (rThenExit ?_))
    exact zTo [] 0 hε (hxs20 _ (houts2 _ (sJ hT).symm))
  .replace hT:=sF hc hT
   refine rExit (rThenExit (rThenExit ?_))
   exact zTo [] 0 hε (hxs10 _ (houts1 _ (sJ hT).symm))
 .cases h
def ref34_Drift_b2(N:Nat) (c2:(Option (List Int))) (c3:(Option (List Int))) (s1:(Int×(List Int))) (s2:(Int×(List Int))):Option ((Int×(List Int))⊕Zt13):=
 bif(decide (s2.1<64))then
  let x2:=(s2.2.set ((s1.1).toNat*64+(s2.1).toNat) (((c2.getD default).getD ((s1.1).toNat*64+(s2.1).toNat) 0)-((c3.getD default).getD ((s1.1).toNat*64+(s2.1).toNat) 0)))
  if(0:Int)<=s1.1/\s1.1<6/\(0:Int)<=s2.1/\s2.1<64/\((s1.1).toNat*64+(s2.1).toNat)<384/\inK .i64 (((c2.getD default).getD ((s1.1).toNat*64+(s2.1).toNat) 0)-((c3.getD default).getD ((s1.1).toNat*64+(s2.1).toNat) 0))then
   if inK .i64 (s2.1+1)then
    some (.inl ((s2.1+1),x2))
   else none
  else none
 else
  some (.inr (s2.1,s2.1,(decide (s2.1<64)),s2.2))
def ref34_Drift_b1(N:Nat) (c2:(Option (List Int))) (c3:(Option (List Int))) (s1:(Int×(List Int))):Option ((Int×(List Int))⊕(List Int)):=
 bif(decide (s1.1<6))then
  (iter (ref34_Drift_b2 N c2 c3 s1) N (0,s1.2)).bind fun v2=>
   if inK .i64 (s1.1+1)then
    some (.inl ((s1.1+1),v2.2.2.2))
   else none
 else
  some (.inr s1.2)
def ref34_Drift(N:Nat)(a1:Int) (a2:(List (List Int))) (a3:Int) (a4:(List (List Int))) (a5:Int) (a6:(List Int)):Option (List Int):=
 let c1:=(ref34_Add N a1 a2 a3 a4)
 let c2:=(ref18_Predict N (c1.getD default).1 (c1.getD default).2 a5 a6)
 if c1.isSome=true/\c2.isSome=true then
  let c3:=(ref18_Predict N a1 a2 a5 a6)
  if c3.isSome=true then
   (iter (ref34_Drift_b1 N c2 c3) N (0,(List.replicate 384 0))).bind fun v1=>
    some v1
  else none
 else none
def sp_ref34_Drift(N:Nat):X.Spec:=fun args lk=>match args with
 | [.v (.agg [.cs [.int .i64 a1],.fzs 3 (.int .u8) a2]),.v (.agg [.cs [.int .i64 a3],.fzs 3 (.int .i64) a4]),.v (.c (.int .i64 a5)),.v (.agg [.ints 2 .i64 a6])]=>some ⟨(ref34_Drift N a1 a2 a3 a4 a5 a6).isSome=true,.v (.agg [.ints 384 .i64 ((ref34_Drift N a1 a2 a3 a4 a5 a6).getD default)]),[],[]⟩
 | _=>none
theorem ok_ref34_Drift(N:Nat):FnOK Tryz.prog gt0 32 (sp_ref34_Drift N):=by
 refine fnOK_handed Tryz.func32 rfl (by kernel_rfl) tt_ok (ktCons (ok_ref18_Predict N) (ktCons (ok_ref34_Add N) (ktNil))) ?_
 intro args lk r h hp
 unfold sp_ref34_Drift at h
 split at h
 .rename_i a1 a2 a3 a4 a5 a6
  change (List (List Int))at a2
  change (List (List Int))at a4
  change (List Int)at a6
  cases h
  obtain⟨x,hT⟩:=sX hp;clear hp
  simp only[hT,Option.getD_some]
  refine hand0 rfl rfl fun w0 M ε0 hX=>rCount fun hε => ?_
  unfold ref34_Drift at hT
  refine zA hX ?_
  let c1:=(ref34_Add N a1 a2 a3 a4)
  let c2:=(ref18_Predict N (c1.getD default).1 (c1.getD default).2 a5 a6)
  replace hT:=sIf hT;obtain⟨⟨o1,o2⟩,hT⟩:=hT
  refine rSeq (rDrawA md0 0 6 7 [] hX mixed rfl rfl rfl rfl rfl rfl rfl rfl rfl rfl rfl rfl rfl rfl rfl zL rfl rfl zP ?_)
  refine rThen ?_
  let c3:=(ref18_Predict N a1 a2 a5 a6)
  replace hT:=sIf hT;obtain⟨o1,hT⟩:=hT
  refine zA hX ?_
  refine zA hX ?_
  refine rSeq (zA hX ?_)
  refine rBlock ?_
  replace hT:=sBind hT;obtain⟨w1,hl,hT⟩:=hT
  refine rJoinA (fun v1=>v1=w1) (fun v1=>⟨[(8,.v (.c (.ptr 3 0 0 0 0 0))),(11,.v (.c (.ptr 6 0 0 0 0 0)))],[(3,.mem true 64 none (.flat [.ints 384 .i64 (List.replicate 384 0)])),(6,.mem true 64 none (.flat [.ints 384 .i64 v1]))],7⟩) (.exit 0) (fun v1 hv => ?_) (fun hxs10 => ?_)
  .subst hv;clear hl
   refine rInHit (rThen (zA hX ?_))
   refine rRet ?_
   have hy:=sJ hT;subst hy
   exact zEnd0 hX rfl
  refine rLoopM (ref34_Drift_b1 N c2 c3) (fun s1=>⟨[(8,.v (.c (.ptr 3 0 0 0 0 0))),(9,.v (.c (.ptr 4 0 0 0 0 0))),(10,.v (.c (.ptr 5 0 0 0 0 0))),(11,.v (.c (.ptr 6 0 0 0 0 0))),(12,.v (.c (.int .i64 s1.1)))],[(3,.mem true 64 none (.flat [.ints 384 .i64 (List.replicate 384 0)])),(4,.mem true 64 none (.flat [.ints 384 .i64 (c2.getD default)])),(5,.mem true 64 none (.flat [.ints 384 .i64 (c3.getD default)])),(6,.mem true 64 none (.flat [.ints 384 .i64 s1.2]))],7⟩) hl (To.mk' [] 0 hε rfl zL zL) (fun s1 zs1 NNs1 hz hnexts1 houts1 => ?_)
  clear hl hT
  have hT:=hz;clear hz
  refine rSeq (zA hX ?_)
  refine zCond rfl rfl (fun hc => ?_) (fun hc => ?_)
  .replace hT:=sT hc hT
   refine rSkip (rThen (rSeq (rBlock (zA hX ?_))))
   refine rBlock ?_
   replace hT:=sBind hT;obtain⟨w2,hl,hT⟩:=hT
   refine rJoinA (fun v2=>v2=w2) (fun v2=>⟨[(8,.v (.c (.ptr 3 0 0 0 0 0))),(9,.v (.c (.ptr 4 0 0 0 0 0))),(10,.v (.c (.ptr 5 0 0 0 0 0))),(11,.v (.c (.ptr 6 0 0 0 0 0))),(12,.v (.c (.int .i64 s1.1))),(13,.v (.c (.int .i64 v2.1))),(24,.v (.c (.int .i64 s1.1))),(25,.v (.c (.bool (decide (s1.1<6))))),(28,.v (.c (.int .i64 v2.2.1))),(29,.v (.c (.bool v2.2.2.1)))],[(3,.mem true 64 none (.flat [.ints 384 .i64 (List.replicate 384 0)])),(4,.mem true 64 none (.flat [.ints 384 .i64 (c2.getD default)])),(5,.mem true 64 none (.flat [.ints 384 .i64 (c3.getD default)])),(6,.mem true 64 none (.flat [.ints 384 .i64 v2.2.2.2]))],7⟩) (.exit 2) (fun v2 hv => ?_) (fun hxs20 => ?_)
   .subst hv;clear hl
    refine rInHit (rInNormal (rThen ?_))
    replace hT:=sIf hT;obtain⟨o1,hT⟩:=hT
    refine zReg md0 hX rfl rfl rfl ?_
    exact hnexts1 _ (sJ hT).symm _ (To.mk' [] 0 hε rfl zL zL)
   refine rLoopM (ref34_Drift_b2 N c2 c3 s1) (fun s2=>⟨[(8,.v (.c (.ptr 3 0 0 0 0 0))),(9,.v (.c (.ptr 4 0 0 0 0 0))),(10,.v (.c (.ptr 5 0 0 0 0 0))),(11,.v (.c (.ptr 6 0 0 0 0 0))),(12,.v (.c (.int .i64 s1.1))),(13,.v (.c (.int .i64 s2.1))),(24,.v (.c (.int .i64 s1.1))),(25,.v (.c (.bool (decide (s1.1<6)))))],[(3,.mem true 64 none (.flat [.ints 384 .i64 (List.replicate 384 0)])),(4,.mem true 64 none (.flat [.ints 384 .i64 (c2.getD default)])),(5,.mem true 64 none (.flat [.ints 384 .i64 (c3.getD default)])),(6,.mem true 64 none (.flat [.ints 384 .i64 s2.2]))],7⟩) hl (To.mk' [] 0 hε rfl zL zL) (fun s2 zs2 NNs2 hz hnexts2 houts2 => ?_)
   clear hl hT
   have hT:=hz;clear hz
   refine rSeq (zA hX ?_)
   refine zCond rfl rfl (fun hc => ?_) (fun hc => ?_)
   .replace hT:=sT hc hT
    refine rSkip (rThen (rSeq (rBlock ?_)))
    let x2:=(s2.2.set ((s1.1).toNat*64+(s2.1).toNat) (((c2.getD default).getD ((s1.1).toNat*64+(s2.1).toNat) 0)-((c3.getD default).getD ((s1.1).toNat*64+(s2.1).toNat) 0)))
    replace hT:=sIf hT;obtain⟨⟨o1,o2,o3,o4,o5,o6⟩,hT⟩:=hT
    refine zDraw md0 1 [15] hX mixed rfl rfl rfl rfl rfl ?_
    refine rInNormal (rThen ?_)
    replace hT:=sIf hT;obtain⟨o1,hT⟩:=hT
    refine zReg md0 hX rfl rfl rfl ?_
    exact hnexts2 _ (sJ hT).symm _ (To.mk' [] 0 hε rfl zL zL)
   .replace hT:=sF hc hT
    refine rExit (rThenExit (rThenExit ?_))
    exact zTo [] 0 hε (hxs20 _ (houts2 _ (sJ hT).symm))
  .replace hT:=sF hc hT
   refine rExit (rThenExit (rThenExit ?_))
   exact zTo [] 0 hε (hxs10 _ (houts1 _ (sJ hT).symm))
 .cases h
def ref11_Order_b2(N:Nat)(s1:Zt8)(s2:Zt8):Option (Zt8⊕(Int×Int×Int×Bool×(List Int))):=
 bif(decide (s2.2.1<8))then
  if(0:Int)<=s1.2.1 then
   if((decide ((s1.2.1%2)=0))=true->inK .i64 ((7:Int)-s2.2.1))then
    if inK .i64 (s1.2.1-(bif(decide ((s1.2.1%2)=0))then((7:Int)-s2.2.1)else s2.2.1))then
     let x1:=(decide ((0:Int)<=(s1.2.1-(bif(decide ((s1.2.1%2)=0))then((7:Int)-s2.2.1)else s2.2.1))))
     let x3:=(bif(decide ((0:Int)<=(s1.2.1-(bif(decide ((s1.2.1%2)=0))then((7:Int)-s2.2.1)else s2.2.1))))then(decide ((s1.2.1-(bif(decide ((s1.2.1%2)=0))then((7:Int)-s2.2.1)else s2.2.1))<8))else false)
     joinK (fun(v3:(Int×(List Int)))=>
      if inK .i64 (s2.2.1+1)then
       some (.inl (v3.1,(s2.2.1+1),v3.2))
      else none
     ) fun k1=>
      bif x3 then
       let x5:=(s2.2.2.set (s2.1).toNat (((8:Int)*(bif(decide ((s1.2.1%2)=0))then((7:Int)-s2.2.1)else s2.2.1))+(s1.2.1-(bif(decide ((s1.2.1%2)=0))then((7:Int)-s2.2.1)else s2.2.1))))
       if inK .i64 ((8:Int)*(bif(decide ((s1.2.1%2)=0))then((7:Int)-s2.2.1)else s2.2.1))/\inK .i64 (((8:Int)*(bif(decide ((s1.2.1%2)=0))then((7:Int)-s2.2.1)else s2.2.1))+(s1.2.1-(bif(decide ((s1.2.1%2)=0))then((7:Int)-s2.2.1)else s2.2.1)))/\(0:Int)<=s2.1/\s2.1<64/\(s2.1).toNat<64 then
        if inK .i64 (s2.1+1)then
         k1 ((s2.1+1),x5)
        else none
       else none
      else
       k1 (s2.1,s2.2.2)
    else none
   else none
  else none
 else
  some (.inr (s2.1,s2.2.1,s2.2.1,(decide (s2.2.1<8)),s2.2.2))
def ref11_Order_b1(N:Nat)(s1:Zt8):Option (Zt8⊕(List Int)):=
 bif(decide (s1.2.1<15))then
  (iter (ref11_Order_b2 N s1) N (s1.1,0,s1.2.2)).bind fun v2=>
   if inK .i64 (s1.2.1+1)then
    some (.inl (v2.1,(s1.2.1+1),v2.2.2.2.2))
   else none
 else
  some (.inr s1.2.2)
def ref11_Order(N:Nat):Option (List Int):=
 (iter (ref11_Order_b1 N) N (0,0,(List.replicate 64 0))).bind fun v1=>
  some v1
def sp_ref11_Order(N:Nat):X.Spec:=fun args lk=>match args with
 | []=>some ⟨(ref11_Order N).isSome=true,.v (.agg [.ints 64 .i64 ((ref11_Order N).getD default)]),[],[]⟩
 | _=>none
theorem ok_ref11_Order(N:Nat):FnOK Tryz.prog gt0 90 (sp_ref11_Order N):=by
 refine fnOK_handed Tryz.func90 rfl (by kernel_rfl) tt_ok (ktNil) ?_
 intro args lk r h hp
 unfold sp_ref11_Order at h
 split at h
 .cases h
  obtain⟨x,hT⟩:=sX hp;clear hp
  simp only[hT,Option.getD_some]
  refine hand0 rfl rfl fun w0 M ε0 hX=>rCount fun hε => ?_
  unfold ref11_Order at hT
  refine zA hX ?_
  refine zA hX ?_
  refine zA hX ?_
  refine rSeq (zA hX ?_)
  refine rBlock ?_
  replace hT:=sBind hT;obtain⟨w1,hl,hT⟩:=hT
  refine rJoinA (fun v1=>v1=w1) (fun v1=>⟨[(0,.v (.c (.ptr 0 0 0 0 0 0))),(1,.v (.c (.ptr 1 0 0 0 0 0)))],[(0,.mem true 62 none (.flat [.ints 64 .i64 (List.replicate 64 0)])),(1,.mem true 62 none (.flat [.ints 64 .i64 v1]))],2⟩) (.exit 0) (fun v1 hv => ?_) (fun hxs10 => ?_)
  .subst hv;clear hl
   refine rInHit (rThen (zA hX ?_))
   refine rRet ?_
   have hy:=sJ hT;subst hy
   exact zEnd0 hX rfl
  refine rLoopM (ref11_Order_b1 N) (fun s1=>⟨[(0,.v (.c (.ptr 0 0 0 0 0 0))),(1,.v (.c (.ptr 1 0 0 0 0 0))),(2,.v (.c (.int .i64 s1.1))),(3,.v (.c (.int .i64 s1.2.1)))],[(0,.mem true 62 none (.flat [.ints 64 .i64 (List.replicate 64 0)])),(1,.mem true 62 none (.flat [.ints 64 .i64 s1.2.2]))],2⟩) hl (To.mk' [] 0 hε rfl zL zL) (fun s1 zs1 NNs1 hz hnexts1 houts1 => ?_)
  clear hl hT
  have hT:=hz;clear hz
  refine rSeq (zA hX ?_)
  refine zCond rfl rfl (fun hc => ?_) (fun hc => ?_)
  .replace hT:=sT hc hT
   refine rSkip (rThen (rSeq (rBlock (zA hX ?_))))
   refine rBlock ?_
   replace hT:=sBind hT;obtain⟨w2,hl,hT⟩:=hT
   refine rJoinA (fun v2=>v2=w2) (fun v2=>⟨[(0,.v (.c (.ptr 0 0 0 0 0 0))),(1,.v (.c (.ptr 1 0 0 0 0 0))),(2,.v (.c (.int .i64 v2.1))),(3,.v (.c (.int .i64 s1.2.1))),(4,.v (.c (.int .i64 v2.2.1))),(7,.v (.c (.int .i64 s1.2.1))),(8,.v (.c (.bool (decide (s1.2.1<15))))),(11,.v (.c (.int .i64 v2.2.2.1))),(12,.v (.c (.bool v2.2.2.2.1)))],[(0,.mem true 62 none (.flat [.ints 64 .i64 (List.replicate 64 0)])),(1,.mem true 62 none (.flat [.ints 64 .i64 v2.2.2.2.2]))],2⟩) (.exit 2) (fun v2 hv => ?_) (fun hxs20 => ?_)
   .subst hv;clear hl
    refine rInHit (rInNormal (rThen ?_))
    replace hT:=sIf hT;obtain⟨o1,hT⟩:=hT
    refine zReg md0 hX rfl rfl rfl ?_
    exact hnexts1 _ (sJ hT).symm _ (To.mk' [] 0 hε rfl zL zL)
   refine rLoopM (ref11_Order_b2 N s1) (fun s2=>⟨[(0,.v (.c (.ptr 0 0 0 0 0 0))),(1,.v (.c (.ptr 1 0 0 0 0 0))),(2,.v (.c (.int .i64 s2.1))),(3,.v (.c (.int .i64 s1.2.1))),(4,.v (.c (.int .i64 s2.2.1))),(7,.v (.c (.int .i64 s1.2.1))),(8,.v (.c (.bool (decide (s1.2.1<15)))))],[(0,.mem true 62 none (.flat [.ints 64 .i64 (List.replicate 64 0)])),(1,.mem true 62 none (.flat [.ints 64 .i64 s2.2.2]))],2⟩) hl (To.mk' [] 0 hε rfl zL zL) (fun s2 zs2 NNs2 hz hnexts2 houts2 => ?_)
   clear hl hT
   have hT:=hz;clear hz
   refine rSeq (zA hX ?_)
   refine zCond rfl rfl (fun hc => ?_) (fun hc => ?_)
   .replace hT:=sT hc hT
    refine rSkip (rThen (rSeq (rBlock (zA hX ?_))))
    refine rSeq ?_
    replace hT:=sIf hT;obtain⟨o1,hT⟩:=hT
    refine zA hX ?_
    replace hT:=sIf hT;obtain⟨q1,hT⟩:=hT
    refine rJoin ⟨[(0,.v (.c (.ptr 0 0 0 0 0 0))),(1,.v (.c (.ptr 1 0 0 0 0 0))),(2,.v (.c (.int .i64 s2.1))),(3,.v (.c (.int .i64 s1.2.1))),(4,.v (.c (.int .i64 s2.2.1))),(5,.v (.c (.int .i64 (bif(decide ((s1.2.1%2)=0))then((7:Int)-s2.2.1)else s2.2.1)))),(7,.v (.c (.int .i64 s1.2.1))),(8,.v (.c (.bool (decide (s1.2.1<15))))),(11,.v (.c (.int .i64 s2.2.1))),(12,.v (.c (.bool (decide (s2.2.1<8))))),(15,.v (.c (.int .i64 s2.2.1))),(16,.v (.c (.int .i64 s1.2.1))),(17,.v (.c (.int .i64 (s1.2.1%2)))),(18,.v (.c (.bool (decide ((s1.2.1%2)=0)))))],[(0,.mem true 62 none (.flat [.ints 64 .i64 (List.replicate 64 0)])),(1,.mem true 62 none (.flat [.ints 64 .i64 s2.2.2]))],2⟩ ?_ (fun hj => ?_)
    .refine rThen ?_
     replace hT:=sIf hT;obtain⟨o1,hT⟩:=hT
     refine zA hX ?_
     let x1:=(decide ((0:Int)<=(s1.2.1-(bif(decide ((s1.2.1%2)=0))then((7:Int)-s2.2.1)else s2.2.1))))
     let x3:=(bif(decide ((0:Int)<=(s1.2.1-(bif(decide ((s1.2.1%2)=0))then((7:Int)-s2.2.1)else s2.2.1))))then(decide ((s1.2.1-(bif(decide ((s1.2.1%2)=0))then((7:Int)-s2.2.1)else s2.2.1))<8))else false)
     refine zA hX ?_
     refine rJoinK hT (fun v3=>⟨[(0,.v (.c (.ptr 0 0 0 0 0 0))),(1,.v (.c (.ptr 1 0 0 0 0 0))),(2,.v (.c (.int .i64 v3.1))),(3,.v (.c (.int .i64 s1.2.1))),(4,.v (.c (.int .i64 s2.2.1))),(5,.v (.c (.int .i64 (bif(decide ((s1.2.1%2)=0))then((7:Int)-s2.2.1)else s2.2.1)))),(6,.v (.c (.int .i64 (s1.2.1-(bif(decide ((s1.2.1%2)=0))then((7:Int)-s2.2.1)else s2.2.1))))),(7,.v (.c (.int .i64 s1.2.1))),(8,.v (.c (.bool (decide (s1.2.1<15))))),(11,.v (.c (.int .i64 s2.2.1))),(12,.v (.c (.bool (decide (s2.2.1<8))))),(15,.v (.c (.int .i64 s2.2.1))),(16,.v (.c (.int .i64 s1.2.1))),(17,.v (.c (.int .i64 (s1.2.1%2)))),(18,.v (.c (.bool (decide ((s1.2.1%2)=0))))),(21,.v (.c (.int .i64 s1.2.1))),(22,.v (.c (.int .i64 (bif(decide ((s1.2.1%2)=0))then((7:Int)-s2.2.1)else s2.2.1)))),(23,.v (.c (.int .i64 (s1.2.1-(bif(decide ((s1.2.1%2)=0))then((7:Int)-s2.2.1)else s2.2.1))))),(24,.v (.c (.int .i64 (s1.2.1-(bif(decide ((s1.2.1%2)=0))then((7:Int)-s2.2.1)else s2.2.1))))),(25,.v (.c (.bool x1))),(26,.v (.c (.bool x1))),(29,.v (.c (.bool x3)))],[(0,.mem true 62 none (.flat [.ints 64 .i64 (List.replicate 64 0)])),(1,.mem true 62 none (.flat [.ints 64 .i64 v3.2]))],2⟩) (fun v3 hT => ?_) (fun k1 hjk1 hT => ?_)
     .refine rInNormal (rThen ?_)
      replace hT:=sIf hT;obtain⟨o1,hT⟩:=hT
      refine zReg md0 hX rfl rfl rfl ?_
      exact hnexts2 _ (sJ hT).symm _ (To.mk' [] 0 hε rfl zL zL)
     .refine zCond rfl rfl (fun hc => ?_) (fun hc => ?_)
      .replace hT:=sT hc hT
       let x5:=(s2.2.2.set (s2.1).toNat (((8:Int)*(bif(decide ((s1.2.1%2)=0))then((7:Int)-s2.2.1)else s2.2.1))+(s1.2.1-(bif(decide ((s1.2.1%2)=0))then((7:Int)-s2.2.1)else s2.2.1))))
       replace hT:=sIf hT;obtain⟨⟨o1,o2,o3,o4,o5⟩,hT⟩:=hT
       refine zA hX ?_
       replace hT:=sIf hT;obtain⟨o1,hT⟩:=hT
       refine zReg md0 hX rfl rfl rfl ?_
       exact zTo [] 0 hε (hjk1 _ hT)
      .replace hT:=sF hc hT
       refine rSkip ?_
       exact zTo [] 0 hε (hjk1 _ hT)
    .clear hT
     refine zCond rfl rfl (fun hc => ?_) (fun hc => ?_)
     .have q1:=q1 hc
      refine zReg md0 hX rfl rfl rfl ?_
      exact rTo (To.mk' [] 0 hε rfl zJ zJ) hj
     .refine rSkip ?_
      exact rTo (To.mk' [] 0 hε rfl zJ zJ) hj
   .replace hT:=sF hc hT
    refine rExit (rThenExit (rThenExit ?_))
    exact zTo [] 0 hε (hxs20 _ (houts2 _ (sJ hT).symm))
  .replace hT:=sF hc hT
   refine rExit (rThenExit (rThenExit ?_))
   exact zTo [] 0 hε (hxs10 _ (houts1 _ (sJ hT).symm))
 .cases h
def ref11_Raster_b1(N:Nat)(a1:(List Int)) (c1:(Option (List Int))) (s1:(Int×(List Int))):Option ((Int×(List Int))⊕(List Int)):=
 bif(decide (s1.1<64))then
  if(0:Int)<=s1.1/\s1.1<64/\(s1.1).toNat<64/\(0:Int)<=((c1.getD default).getD (s1.1).toNat 0)/\((c1.getD default).getD (s1.1).toNat 0)<64/\((c1.getD default).getD (s1.1).toNat 0).toNat<64 then
   if inK .i64 (s1.1+1)then
    some (.inl ((s1.1+1),(s1.2.set ((c1.getD default).getD (s1.1).toNat 0).toNat (a1.getD (s1.1).toNat 0))))
   else none
  else none
 else
  some (.inr s1.2)
def ref11_Raster(N:Nat)(a1:(List Int)):Option (List Int):=
 let c1:=(ref11_Order N)
 if c1.isSome=true then
  (iter (ref11_Raster_b1 N a1 c1) N (0,(List.replicate 64 0))).bind fun v1=>
   some v1
 else none
def sp_ref11_Raster(N:Nat):X.Spec:=fun args lk=>match args with
 | [.v (.agg [.ints 64 .i64 a1])]=>some ⟨(ref11_Raster N a1).isSome=true,.v (.agg [.ints 64 .i64 ((ref11_Raster N a1).getD default)]),[],[]⟩
 | _=>none
theorem ok_ref11_Raster(N:Nat):FnOK Tryz.prog gt0 91 (sp_ref11_Raster N):=by
 refine fnOK_handed Tryz.func91 rfl (by kernel_rfl) tt_ok (ktCons (ok_ref11_Order N) (ktNil)) ?_
 intro args lk r h hp
 unfold sp_ref11_Raster at h
 split at h
 .rename_i a1
  change (List Int)at a1
  cases h
  obtain⟨x,hT⟩:=sX hp;clear hp
  simp only[hT,Option.getD_some]
  refine hand0 rfl rfl fun w0 M ε0 hX=>rCount fun hε => ?_
  unfold ref11_Raster at hT
  refine zA hX ?_
  let c1:=(ref11_Order N)
  replace hT:=sIf hT;obtain⟨o1,hT⟩:=hT
  refine zA hX ?_
  refine zA hX ?_
  refine rSeq (zA hX ?_)
  refine rBlock ?_
  replace hT:=sBind hT;obtain⟨w1,hl,hT⟩:=hT
  refine rJoinA (fun v1=>v1=w1) (fun v1=>⟨[(2,.v (.c (.ptr 1 0 0 0 0 0))),(4,.v (.c (.ptr 3 0 0 0 0 0)))],[(1,.mem true 62 none (.flat [.ints 64 .i64 (List.replicate 64 0)])),(3,.mem true 62 none (.flat [.ints 64 .i64 v1]))],4⟩) (.exit 0) (fun v1 hv => ?_) (fun hxs10 => ?_)
  .subst hv;clear hl
   refine rInHit (rThen (zA hX ?_))
   refine rRet ?_
   have hy:=sJ hT;subst hy
   exact zEnd0 hX rfl
  refine rLoopM (ref11_Raster_b1 N a1 c1) (fun s1=>⟨[(1,.v (.c (.ptr 0 0 0 0 0 0))),(2,.v (.c (.ptr 1 0 0 0 0 0))),(3,.v (.c (.ptr 2 0 0 0 0 0))),(4,.v (.c (.ptr 3 0 0 0 0 0))),(5,.v (.c (.int .i64 s1.1)))],[(0,.mem true 62 none (.flat [.ints 64 .i64 a1])),(1,.mem true 62 none (.flat [.ints 64 .i64 (List.replicate 64 0)])),(2,.mem true 62 none (.flat [.ints 64 .i64 (c1.getD default)])),(3,.mem true 62 none (.flat [.ints 64 .i64 s1.2]))],4⟩) hl (To.mk' [] 0 hε rfl zL zL) (fun s1 zs1 NNs1 hz hnexts1 houts1 => ?_)
  clear hl hT
  have hT:=hz;clear hz
  refine rSeq (zA hX ?_)
  refine zCond rfl rfl (fun hc => ?_) (fun hc => ?_)
  .replace hT:=sT hc hT
   refine rSkip (rThen (rSeq (rBlock ?_)))
   replace hT:=sIf hT;obtain⟨⟨o1,o2,o3,o4,o5,o6⟩,hT⟩:=hT
   refine zDraw md0 1 [7] hX mixed rfl rfl rfl rfl rfl ?_
   refine rInNormal (rThen ?_)
   replace hT:=sIf hT;obtain⟨o1,hT⟩:=hT
   refine zReg md0 hX rfl rfl rfl ?_
   exact hnexts1 _ (sJ hT).symm _ (To.mk' [] 0 hε rfl zL zL)
  .replace hT:=sF hc hT
   refine rExit (rThenExit (rThenExit ?_))
   exact zTo [] 0 hε (hxs10 _ (houts1 _ (sJ hT).symm))
 .cases h
def ref29_Levels_b1(N:Nat)(a7:Zt1)(c1:(Option Bool)) (s1:(Int×(List Int))):Option ((Int×(List Int))⊕(List Int)):=
 bif(decide (s1.1<6))then
  let c2:=(ref10_Levels N (a7.getD (s1.1).toNat []) (bif(c1.getD default)then(1:Int)else 0))
  if(0:Int)<=s1.1/\s1.1<6/\(s1.1).toNat<6/\c2.isSome=true then
   let c3:=(ref11_Raster N (c2.getD default).1)
   if c3.isSome=true/\(0:Int)<=s1.1/\s1.1<6/\(64*(s1.1).toNat)+64<=384 then
    if inK .i64 (s1.1+1)then
     some (.inl ((s1.1+1),(layL s1.2 (64*(s1.1).toNat) (c3.getD default) 64)))
    else none
   else none
  else none
 else
  some (.inr s1.2)
def ref29_Levels(N:Nat)(a1:Int)(a2:Bool)(a3:Int)(a4:Int)(a5:(List Int))(a6:(List Int))(a7:Zt1):Option (List Int):=
 let c1:=(ref21_Intra N a3)
 if c1.isSome=true then
  (iter (ref29_Levels_b1 N a7 c1) N (0,(List.replicate 384 0))).bind fun v1=>
   some v1
 else none
def sp_ref29_Levels(N:Nat):X.Spec:=fun args lk=>match args with
 | [.v (.agg [.cs [.int .i64 a1,.bool a2,.int .i64 a3,.int .i64 a4],.ints 2 .i64 a5,.ints 6 .i64 a6,.fzs 6 (.pair .bool (.pair (.int .i64) (.int .i64))) a7])]=>some ⟨(ref29_Levels N a1 a2 a3 a4 a5 a6 a7).isSome=true,.v (.agg [.ints 384 .i64 ((ref29_Levels N a1 a2 a3 a4 a5 a6 a7).getD default)]),[],[]⟩
 | _=>none
theorem ok_ref29_Levels(N:Nat):FnOK Tryz.prog gt0 59 (sp_ref29_Levels N):=by
 refine fnOK_handed Tryz.func59 rfl (by kernel_rfl) tt_ok (ktCons (ok_ref11_Raster N) (ktCons (ok_ref10_Levels N) (ktCons (ok_ref21_Intra N) (ktNil)))) ?_
 intro args lk r h hp
 unfold sp_ref29_Levels at h
 split at h
 .rename_i a1 a2 a3 a4 a5 a6 a7
  change (List Int)at a5
  change (List Int)at a6
  change Zt1 at a7
  cases h
  obtain⟨x,hT⟩:=sX hp;clear hp
  simp only[hT,Option.getD_some]
  refine hand0 rfl rfl fun w0 M ε0 hX=>rCount fun hε => ?_
  unfold ref29_Levels at hT
  refine zA hX ?_
  refine zA hX ?_
  refine rSeq ?_
  let c1:=(ref21_Intra N a3)
  replace hT:=sIf hT;obtain⟨o1,hT⟩:=hT
  refine zA hX ?_
  refine rJoin ⟨[(1,.v (.c (.ptr 0 0 0 0 0 0))),(2,.v (.c (.ptr 1 0 0 0 0 0))),(3,.v (.c (.int .i64 (bif(c1.getD default)then(1:Int)else 0))))],[(0,.mem true 35 none (.flat [.cs [.int .i64 a1,.bool a2,.int .i64 a3,.int .i64 a4],.ints 2 .i64 a5,.ints 6 .i64 a6,.fzs 6 Zs1 a7])),(1,.mem true 64 none (.flat [.ints 384 .i64 (List.replicate 384 0)]))],2⟩ ?_ (fun hj => ?_)
  .refine rThen (zA hX ?_)
   refine rSeq (zA hX ?_)
   refine rBlock ?_
   replace hT:=sBind hT;obtain⟨w1,hl,hT⟩:=hT
   refine rJoinA (fun v1=>v1=w1) (fun v1=>⟨[(2,.v (.c (.ptr 1 0 0 0 0 0))),(4,.v (.c (.ptr 2 0 0 0 0 0)))],[(1,.mem true 64 none (.flat [.ints 384 .i64 (List.replicate 384 0)])),(2,.mem true 64 none (.flat [.ints 384 .i64 v1]))],3⟩) (.exit 0) (fun v1 hv => ?_) (fun hxs10 => ?_)
   .subst hv;clear hl
    refine rInHit (rThen (zA hX ?_))
    refine rRet ?_
    have hy:=sJ hT;subst hy
    exact zEnd0 hX rfl
   refine rLoopM (ref29_Levels_b1 N a7 c1) (fun s1=>⟨[(1,.v (.c (.ptr 0 0 0 0 0 0))),(2,.v (.c (.ptr 1 0 0 0 0 0))),(3,.v (.c (.int .i64 (bif(c1.getD default)then(1:Int)else 0)))),(4,.v (.c (.ptr 2 0 0 0 0 0))),(5,.v (.c (.int .i64 s1.1)))],[(0,.mem true 35 none (.flat [.cs [.int .i64 a1,.bool a2,.int .i64 a3,.int .i64 a4],.ints 2 .i64 a5,.ints 6 .i64 a6,.fzs 6 Zs1 a7])),(1,.mem true 64 none (.flat [.ints 384 .i64 (List.replicate 384 0)])),(2,.mem true 64 none (.flat [.ints 384 .i64 s1.2]))],3⟩) hl (To.mk' [] 0 hε rfl zL zL) (fun s1 zs1 NNs1 hz hnexts1 houts1 => ?_)
   clear hl hT
   have hT:=hz;clear hz
   refine rSeq (zA hX ?_)
   refine zCond rfl rfl (fun hc => ?_) (fun hc => ?_)
   .replace hT:=sT hc hT
    refine rSkip (rThen (rSeq (rBlock ?_)))
    let c2:=(ref10_Levels N (a7.getD (s1.1).toNat []) (bif(c1.getD default)then(1:Int)else 0))
    replace hT:=sIf hT;obtain⟨⟨o1,o2,o3,o4⟩,hT⟩:=hT
    refine zA hX ?_
    let c3:=(ref11_Raster N (c2.getD default).1)
    replace hT:=sIf hT;obtain⟨⟨o1,o2,o3,o4⟩,hT⟩:=hT
    refine zReg md0 hX rfl rfl rfl ?_
    refine rInNormal (rThen ?_)
    replace hT:=sIf hT;obtain⟨o1,hT⟩:=hT
    refine zReg md0 hX rfl rfl rfl ?_
    exact hnexts1 _ (sJ hT).symm _ (To.mk' [] 0 hε rfl zL zL)
   .replace hT:=sF hc hT
    refine rExit (rThenExit (rThenExit ?_))
    exact zTo [] 0 hε (hxs10 _ (houts1 _ (sJ hT).symm))
  .clear hT
   refine zCond rfl rfl (fun hc => ?_) (fun hc => ?_)
   .refine zReg md0 hX rfl rfl rfl ?_
    exact rTo (To.mk' [] 0 hε rfl zJ zJ) hj
   .refine rSkip ?_
    exact rTo (To.mk' [] 0 hε rfl zJ zJ) hj
 .cases h
def ref35_nought_b1(N:Nat)(a1:(List Int))(s1:Int):Option (Int⊕(Unit⊕Unit)):=
 bif(decide (s1<64))then
  if(0:Int)<=s1/\s1<64/\(s1).toNat<64 then
   bif(decide ((a1.getD (s1).toNat 0)≠0))then
    some (.inr (Sum.inl ()))
   else
    if inK .i64 (s1+1)then
     some (.inl (s1+1))
    else none
  else none
 else
  some (.inr (Sum.inr ()))
def ref35_nought(N:Nat)(a1:(List Int)):Option Bool:=
 (iter (ref35_nought_b1 N a1) N 0).bind fun w1=>
  (Sum.elim (fun v1=>
   some false
  )
   (fun v2=>
    some true
   )
  ) w1
def sp_ref35_nought(N:Nat):X.Spec:=fun args lk=>match args with
 | [.v (.agg [.ints 64 .i64 a1])]=>some ⟨(ref35_nought N a1).isSome=true,.v (.c (.bool ((ref35_nought N a1).getD default))),[],[]⟩
 | _=>none
theorem ok_ref35_nought(N:Nat):FnOK Tryz.prog gt0 92 (sp_ref35_nought N):=by
 refine fnOK_handed Tryz.func92 rfl (by kernel_rfl) tt_ok (ktNil) ?_
 intro args lk r h hp
 unfold sp_ref35_nought at h
 split at h
 .rename_i a1
  change (List Int)at a1
  cases h
  obtain⟨x,hT⟩:=sX hp;clear hp
  simp only[hT,Option.getD_some]
  refine hand0 rfl rfl fun w0 M ε0 hX=>rCount fun hε => ?_
  unfold ref35_nought at hT
  refine zA hX ?_
  refine rSeq (zA hX ?_)
  refine rBlock ?_
  replace hT:=sBind hT;obtain⟨w1,hl,hT⟩:=hT
  refine rJoinA (fun v1=>(Sum.inl v1)=w1) (fun v1=>⟨[(2,.v (.c (.bool false)))],[],1⟩) .ret (fun v1 hv => ?_) (fun hxs10 => ?_)
  .subst hv;clear hl;replace hT:=(sElimL hT)
   refine rInRet (rThenRet ?_)
   have hy:=sJ hT;subst hy
   exact zEnd0 hX rfl
  refine rJoinA (fun v2=>(Sum.inr v2)=w1) (fun v2=>⟨[(2,.v (.c (.bool false)))],[],1⟩) (.exit 0) (fun v2 hv => ?_) (fun hxs11 => ?_)
  .subst hv;clear hl;replace hT:=(sElimR hT)
   refine rInHit (rThen (zA hX ?_))
   refine rRet ?_
   have hy:=sJ hT;subst hy
   exact zEnd0 hX rfl
  refine rLoopM (ref35_nought_b1 N a1) (fun s1=>⟨[(1,.v (.c (.ptr 0 0 0 0 0 0))),(2,.v (.c (.bool false))),(3,.v (.c (.int .i64 s1)))],[(0,.mem true 62 none (.flat [.ints 64 .i64 a1]))],1⟩) hl (To.mk' [] 0 hε rfl zL zL) (fun s1 zs1 NNs1 hz hnexts1 houts1 => ?_)
  clear hl hT
  have hT:=hz;clear hz
  refine rSeq (zA hX ?_)
  refine zCond rfl rfl (fun hc => ?_) (fun hc => ?_)
  .replace hT:=sT hc hT
   refine rSkip (rThen (rSeq (rBlock ?_)))
   replace hT:=sIf hT;obtain⟨⟨o1,o2,o3⟩,hT⟩:=hT
   refine zA hX ?_
   refine zCond rfl rfl (fun hc => ?_) (fun hc => ?_)
   .replace hT:=sT hc hT
    refine zA hX ?_
    refine rRet (rInRet (rThenRet (rThenRet ?_)))
    exact zTo [] 0 hε (hxs10 _ (houts1 _ (sJ hT).symm))
   .replace hT:=sF hc hT
    refine rSkip (rInNormal (rThen ?_))
    replace hT:=sIf hT;obtain⟨o1,hT⟩:=hT
    refine zReg md0 hX rfl rfl rfl ?_
    exact hnexts1 _ (sJ hT).symm _ (To.mk' [] 0 hε rfl zL zL)
  .replace hT:=sF hc hT
   refine rExit (rThenExit (rThenExit ?_))
   exact zTo [] 0 hε (hxs11 _ (houts1 _ (sJ hT).symm))
 .cases h
def ref14_Weight(N:Nat)(a1:Int)(a2:Int):Option Int:=
 let x1:(List Int):=(layL (layL (layL (layL (layL (layL (layL (layL (List.replicate 32 0) 0 (((((List.replicate 4 0).set 0 64).set 1 64).set 2 64).set 3 64) 4) 4 (((((List.replicate 4 0).set 0 89).set 1 75).set 2 50).set 3 18) 4) 8 (((((List.replicate 4 0).set 0 83).set 1 36).set 2 (-36)).set 3 (-83)) 4) 12 (((((List.replicate 4 0).set 0 75).set 1 (-18)).set 2 (-89)).set 3 (-50)) 4) 16 (((((List.replicate 4 0).set 0 64).set 1 (-64)).set 2 (-64)).set 3 64) 4) 20 (((((List.replicate 4 0).set 0 50).set 1 (-89)).set 2 18).set 3 75) 4) 24 (((((List.replicate 4 0).set 0 36).set 1 (-83)).set 2 83).set 3 (-36)) 4) 28 (((((List.replicate 4 0).set 0 18).set 1 (-50)).set 2 75).set 3 (-89)) 4)
 bif(decide (a2<4))then
  if(0:Int)<=a1/\a1<8/\(0:Int)<=a2/\a2<4/\((a1).toNat*4+(a2).toNat)<32 then
   some (x1.getD ((a1).toNat*4+(a2).toNat) 0)
  else none
 else
  if(0:Int)<=a1 then
   bif(decide ((a1%2)=1))then
    if inK .i64 ((7:Int)-a2)/\(0:Int)<=a1/\a1<8/\(0:Int)<=((7:Int)-a2)/\((7:Int)-a2)<4/\((a1).toNat*4+((7:Int)-a2).toNat)<32/\inK .i64 (-(x1.getD ((a1).toNat*4+((7:Int)-a2).toNat) 0))then
     some (-(x1.getD ((a1).toNat*4+((7:Int)-a2).toNat) 0))
    else none
   else
    if inK .i64 ((7:Int)-a2)/\(0:Int)<=a1/\a1<8/\(0:Int)<=((7:Int)-a2)/\((7:Int)-a2)<4/\((a1).toNat*4+((7:Int)-a2).toNat)<32 then
     some (x1.getD ((a1).toNat*4+((7:Int)-a2).toNat) 0)
    else none
  else none
def sp_ref14_Weight(N:Nat):X.Spec:=fun args lk=>match args with
 | [.v (.c (.int .i64 a1)),.v (.c (.int .i64 a2))]=>some ⟨(ref14_Weight N a1 a2).isSome=true,.v (.c (.int .i64 ((ref14_Weight N a1 a2).getD default))),[],[]⟩
 | _=>none
theorem ok_ref14_Weight(N:Nat):FnOK Tryz.prog gt0 129 (sp_ref14_Weight N):=by
 refine fnOK_handed Tryz.func129 rfl (by kernel_rfl) tt_ok (ktNil) ?_
 intro args lk r h hp
 unfold sp_ref14_Weight at h
 split at h
 .rename_i a1 a2
  cases h
  obtain⟨x,hT⟩:=sX hp;clear hp
  simp only[hT,Option.getD_some]
  refine hand0 rfl rfl fun w0 M ε0 hX=>rCount fun hε => ?_
  unfold ref14_Weight at hT
  refine zA hX ?_
  let x1:(List Int):=(layL (layL (layL (layL (layL (layL (layL (layL (List.replicate 32 0) 0 (((((List.replicate 4 0).set 0 64).set 1 64).set 2 64).set 3 64) 4) 4 (((((List.replicate 4 0).set 0 89).set 1 75).set 2 50).set 3 18) 4) 8 (((((List.replicate 4 0).set 0 83).set 1 36).set 2 (-36)).set 3 (-83)) 4) 12 (((((List.replicate 4 0).set 0 75).set 1 (-18)).set 2 (-89)).set 3 (-50)) 4) 16 (((((List.replicate 4 0).set 0 64).set 1 (-64)).set 2 (-64)).set 3 64) 4) 20 (((((List.replicate 4 0).set 0 50).set 1 (-89)).set 2 18).set 3 75) 4) 24 (((((List.replicate 4 0).set 0 36).set 1 (-83)).set 2 83).set 3 (-36)) 4) 28 (((((List.replicate 4 0).set 0 18).set 1 (-50)).set 2 75).set 3 (-89)) 4)
  refine zA hX ?_
  refine rSeq (zA hX ?_)
  refine zCond rfl rfl (fun hc => ?_) (fun hc => ?_)
  .replace hT:=sT hc hT
   replace hT:=sIf hT;obtain⟨⟨o1,o2,o3,o4,o5⟩,hT⟩:=hT
   refine zA hX ?_
   refine rRet (rThenRet ?_)
   have hy:=sJ hT;subst hy
   exact zEnd0 hX rfl
  .replace hT:=sF hc hT
   refine rSkip (rThen (rSeq ?_))
   replace hT:=sIf hT;obtain⟨o1,hT⟩:=hT
   refine zA hX ?_
   refine zCond rfl rfl (fun hc => ?_) (fun hc => ?_)
   .replace hT:=sT hc hT
    replace hT:=sIf hT;obtain⟨⟨o1,o2,o3,o4,o5,o6,o7⟩,hT⟩:=hT
    refine zA hX ?_
    refine rRet (rThenRet ?_)
    have hy:=sJ hT;subst hy
    exact zEnd0 hX rfl
   .replace hT:=sF hc hT
    refine rSkip (rThen ?_)
    replace hT:=sIf hT;obtain⟨⟨o1,o2,o3,o4,o5,o6⟩,hT⟩:=hT
    refine zA hX ?_
    refine rRet ?_
    have hy:=sJ hT;subst hy
    exact zEnd0 hX rfl
 .cases h
def ref14_weights_b2(N:Nat) (s1:(Int×(List Int))) (s2:(Int×(List Int))):Option ((Int×(List Int))⊕Zt13):=
 bif(decide (s2.1<8))then
  let c1:=(ref14_Weight N s1.1 s2.1)
  if c1.isSome=true/\(0:Int)<=s1.1/\s1.1<8/\(0:Int)<=s2.1/\s2.1<8/\((s1.1).toNat*8+(s2.1).toNat)<64 then
   if inK .i64 (s2.1+1)then
    some (.inl ((s2.1+1),(s2.2.set ((s1.1).toNat*8+(s2.1).toNat) (c1.getD default))))
   else none
  else none
 else
  some (.inr (s2.1,s2.1,(decide (s2.1<8)),s2.2))
def ref14_weights_b1(N:Nat) (s1:(Int×(List Int))):Option ((Int×(List Int))⊕(List Int)):=
 bif(decide (s1.1<8))then
  (iter (ref14_weights_b2 N s1) N (0,s1.2)).bind fun v2=>
   if inK .i64 (s1.1+1)then
    some (.inl ((s1.1+1),v2.2.2.2))
   else none
 else
  some (.inr s1.2)
def ref14_weights(N:Nat):Option (List Int):=
 (iter (ref14_weights_b1 N) N (0,(List.replicate 64 0))).bind fun v1=>
  some v1
def sp_ref14_weights(N:Nat):X.Spec:=fun args lk=>match args with
 | []=>some ⟨(ref14_weights N).isSome=true,.v (.agg [.ints 64 .i64 ((ref14_weights N).getD default)]),[],[]⟩
 | _=>none
theorem ok_ref14_weights(N:Nat):FnOK Tryz.prog gt0 116 (sp_ref14_weights N):=by
 refine fnOK_handed Tryz.func116 rfl (by kernel_rfl) tt_ok (ktCons (ok_ref14_Weight N) (ktNil)) ?_
 intro args lk r h hp
 unfold sp_ref14_weights at h
 split at h
 .cases h
  obtain⟨x,hT⟩:=sX hp;clear hp
  simp only[hT,Option.getD_some]
  refine hand0 rfl rfl fun w0 M ε0 hX=>rCount fun hε => ?_
  unfold ref14_weights at hT
  refine zA hX ?_
  refine zA hX ?_
  refine rSeq (zA hX ?_)
  refine rBlock ?_
  replace hT:=sBind hT;obtain⟨w1,hl,hT⟩:=hT
  refine rJoinA (fun v1=>v1=w1) (fun v1=>⟨[(0,.v (.c (.ptr 0 0 0 0 0 0))),(1,.v (.c (.ptr 1 0 0 0 0 0)))],[(0,.mem true 156 none (.flat [.ints 64 .i64 (List.replicate 64 0)])),(1,.mem true 156 none (.flat [.ints 64 .i64 v1]))],2⟩) (.exit 0) (fun v1 hv => ?_) (fun hxs10 => ?_)
  .subst hv;clear hl
   refine rInHit (rThen (zA hX ?_))
   refine rRet ?_
   have hy:=sJ hT;subst hy
   exact zEnd0 hX rfl
  refine rLoopM (ref14_weights_b1 N) (fun s1=>⟨[(0,.v (.c (.ptr 0 0 0 0 0 0))),(1,.v (.c (.ptr 1 0 0 0 0 0))),(2,.v (.c (.int .i64 s1.1)))],[(0,.mem true 156 none (.flat [.ints 64 .i64 (List.replicate 64 0)])),(1,.mem true 156 none (.flat [.ints 64 .i64 s1.2]))],2⟩) hl (To.mk' [] 0 hε rfl zL zL) (fun s1 zs1 NNs1 hz hnexts1 houts1 => ?_)
  clear hl hT
  have hT:=hz;clear hz
  refine rSeq (zA hX ?_)
  refine zCond rfl rfl (fun hc => ?_) (fun hc => ?_)
  .replace hT:=sT hc hT
   refine rSkip (rThen (rSeq (rBlock (zA hX ?_))))
   refine rBlock ?_
   replace hT:=sBind hT;obtain⟨w2,hl,hT⟩:=hT
   refine rJoinA (fun v2=>v2=w2) (fun v2=>⟨[(0,.v (.c (.ptr 0 0 0 0 0 0))),(1,.v (.c (.ptr 1 0 0 0 0 0))),(2,.v (.c (.int .i64 s1.1))),(3,.v (.c (.int .i64 v2.1))),(4,.v (.c (.int .i64 s1.1))),(5,.v (.c (.bool (decide (s1.1<8))))),(8,.v (.c (.int .i64 v2.2.1))),(9,.v (.c (.bool v2.2.2.1)))],[(0,.mem true 156 none (.flat [.ints 64 .i64 (List.replicate 64 0)])),(1,.mem true 156 none (.flat [.ints 64 .i64 v2.2.2.2]))],2⟩) (.exit 2) (fun v2 hv => ?_) (fun hxs20 => ?_)
   .subst hv;clear hl
    refine rInHit (rInNormal (rThen ?_))
    replace hT:=sIf hT;obtain⟨o1,hT⟩:=hT
    refine zReg md0 hX rfl rfl rfl ?_
    exact hnexts1 _ (sJ hT).symm _ (To.mk' [] 0 hε rfl zL zL)
   refine rLoopM (ref14_weights_b2 N s1) (fun s2=>⟨[(0,.v (.c (.ptr 0 0 0 0 0 0))),(1,.v (.c (.ptr 1 0 0 0 0 0))),(2,.v (.c (.int .i64 s1.1))),(3,.v (.c (.int .i64 s2.1))),(4,.v (.c (.int .i64 s1.1))),(5,.v (.c (.bool (decide (s1.1<8)))))],[(0,.mem true 156 none (.flat [.ints 64 .i64 (List.replicate 64 0)])),(1,.mem true 156 none (.flat [.ints 64 .i64 s2.2]))],2⟩) hl (To.mk' [] 0 hε rfl zL zL) (fun s2 zs2 NNs2 hz hnexts2 houts2 => ?_)
   clear hl hT
   have hT:=hz;clear hz
   refine rSeq (zA hX ?_)
   refine zCond rfl rfl (fun hc => ?_) (fun hc => ?_)
   .replace hT:=sT hc hT
    refine rSkip (rThen (rSeq (rBlock ?_)))
    let c1:=(ref14_Weight N s1.1 s2.1)
    replace hT:=sIf hT;obtain⟨⟨o1,o2,o3,o4,o5,o6⟩,hT⟩:=hT
    refine zDraw md0 1 [7] hX mixed rfl rfl rfl rfl rfl ?_
    refine rInNormal (rThen ?_)
    replace hT:=sIf hT;obtain⟨o1,hT⟩:=hT
    refine zReg md0 hX rfl rfl rfl ?_
    exact hnexts2 _ (sJ hT).symm _ (To.mk' [] 0 hε rfl zL zL)
   .replace hT:=sF hc hT
    refine rExit (rThenExit (rThenExit ?_))
    exact zTo [] 0 hε (hxs20 _ (houts2 _ (sJ hT).symm))
  .replace hT:=sF hc hT
   refine rExit (rThenExit (rThenExit ?_))
   exact zTo [] 0 hε (hxs10 _ (houts1 _ (sJ hT).symm))
 .cases h
def ref01_Round_b1(N:Nat)(c2:(Option Int))(s1:(Int×Int)):Option ((Int×Int)⊕Int):=
 bif(decide (s1.2<(c2.getD default)))then
  if inK .i64 ((2:Int)*s1.1)then
   if inK .i64 (s1.2+1)then
    some (.inl (((2:Int)*s1.1),(s1.2+1)))
   else none
  else none
 else
  some (.inr s1.1)
def ref01_Round(N:Nat)(a1:Int)(a2:Int):Option Int:=
 let c1:=(ref01_Clip N a1 (-1099511627776) 1099511627776)
 if c1.isSome=true then
  let c2:=(ref01_Clip N a2 0 32)
  if c2.isSome=true then
   bif(decide ((c2.getD default)=0))then
    some (c1.getD default)
   else
    (iter (ref01_Round_b1 N c2) N (1,0)).bind fun v1=>
     if inK .i64 (Int.tdiv v1 2)/\inK .i64 ((c1.getD default)+(Int.tdiv v1 2))then
      if v1≠0/\inK .i64 (Int.tdiv ((c1.getD default)+(Int.tdiv v1 2)) v1)then
       let x2:=(bif(decide (((c1.getD default)+(Int.tdiv v1 2))<0))then(decide (((Int.tdiv ((c1.getD default)+(Int.tdiv v1 2)) v1)*v1)≠((c1.getD default)+(Int.tdiv v1 2))))else false)
       if((decide (((c1.getD default)+(Int.tdiv v1 2))<0))=true->inK .i64 ((Int.tdiv ((c1.getD default)+(Int.tdiv v1 2)) v1)*v1))then
        if(x2=true->inK .i64 ((Int.tdiv ((c1.getD default)+(Int.tdiv v1 2)) v1)-1))then
         let x3:=(bif x2 then((Int.tdiv ((c1.getD default)+(Int.tdiv v1 2)) v1)-1)else(Int.tdiv ((c1.getD default)+(Int.tdiv v1 2)) v1))
         some x3
        else none
       else none
      else none
     else none
  else none
 else none
def sp_ref01_Round(N:Nat):X.Spec:=fun args lk=>match args with
 | [.v (.c (.int .i64 a1)),.v (.c (.int .i64 a2))]=>some ⟨(ref01_Round N a1 a2).isSome=true,.v (.c (.int .i64 ((ref01_Round N a1 a2).getD default))),[],[]⟩
 | _=>none
theorem ok_ref01_Round(N:Nat):FnOK Tryz.prog gt0 117 (sp_ref01_Round N):=by
 refine fnOK_handed Tryz.func117 rfl (by kernel_rfl) tt_ok (ktCons (ok_ref01_Clip N) (ktNil)) ?_
 intro args lk r h hp
 unfold sp_ref01_Round at h
 split at h
 .rename_i a1 a2
  cases h
  obtain⟨x,hT⟩:=sX hp;clear hp
  simp only[hT,Option.getD_some]
  refine hand0 rfl rfl fun w0 M ε0 hX=>rCount fun hε => ?_
  unfold ref01_Round at hT
  refine rSeq (zReg mdT hX rfl rfl rfl ?_)
  refine rThen ?_
  let c1:=(ref01_Clip N a1 (-1099511627776) 1099511627776)
  replace hT:=sIf hT;obtain⟨o1,hT⟩:=hT
  refine rSeq (zReg mdT hX rfl rfl rfl ?_)
  refine rThen ?_
  let c2:=(ref01_Clip N a2 0 32)
  replace hT:=sIf hT;obtain⟨o1,hT⟩:=hT
  refine rSeq (zReg mdT hX rfl rfl rfl ?_)
  refine rThen (rSeq (rSeq (zReg mdT hX rfl rfl rfl ?_)))
  refine rThen ?_
  refine zCond rfl rfl (fun hc => ?_) (fun hc => ?_)
  .replace hT:=sT hc hT
   refine rSeq (zReg mdT hX rfl rfl rfl ?_)
   refine rThen (rRet (rThenRet ?_))
   have hy:=sJ hT;subst hy
   exact zEnd0 hX rfl
  .replace hT:=sF hc hT
   refine rSkip (rThen (rSeq (zReg mdT hX rfl rfl rfl ?_)))
   refine rThen (rSeq (rSeq (zReg mdT hX rfl rfl rfl ?_)))
   refine rThen (rBlock ?_)
   replace hT:=sBind hT;obtain⟨w1,hl,hT⟩:=hT
   refine rJoinA (fun v1=>v1=w1) (fun v1=>⟨[(0,.v (.c (.int .i64 (c1.getD default)))),(4,.v (.c (.int .i64 0))),(5,.v (.c (.int .i64 v1)))],[],0⟩) (.exit 0) (fun v1 hv => ?_) (fun hxs10 => ?_)
   .subst hv;clear hl
    refine rInHit (rThen ?_)
    replace hT:=sIf hT;obtain⟨⟨o1,o2⟩,hT⟩:=hT
    refine rSeq (zReg mdT hX rfl rfl rfl ?_)
    refine rThen ?_
    replace hT:=sIf hT;obtain⟨⟨o1,o2⟩,hT⟩:=hT
    refine rSeq (zReg mdT hX rfl rfl rfl ?_)
    refine rThen (rSeq ?_)
    let x2:=(bif(decide (((c1.getD default)+(Int.tdiv v1 2))<0))then(decide (((Int.tdiv ((c1.getD default)+(Int.tdiv v1 2)) v1)*v1)≠((c1.getD default)+(Int.tdiv v1 2))))else false)
    replace hT:=sIf hT;obtain⟨o1,hT⟩:=hT
    refine rSeq (rRegC mdT hX rfl rfl rfl zO ?_)
    refine rThen ?_
    replace hT:=sIf hT;obtain⟨q1,hT⟩:=hT
    refine rJoin ⟨[(4,.v (.c (.int .i64 0))),(8,.v (.c (.int .i64 (bif x2 then((Int.tdiv ((c1.getD default)+(Int.tdiv v1 2)) v1)-1)else(Int.tdiv ((c1.getD default)+(Int.tdiv v1 2)) v1)))))],[],0⟩ ?_ (fun hj => ?_)
    .let x3:=(bif x2 then((Int.tdiv ((c1.getD default)+(Int.tdiv v1 2)) v1)-1)else(Int.tdiv ((c1.getD default)+(Int.tdiv v1 2)) v1))
     refine rThen (rSeq (zReg mdT hX rfl rfl rfl ?_))
     refine rThen (rRet ?_)
     have hy:=sJ hT;subst hy
     exact zEnd0 hX rfl
    .clear hT
     refine zCond rfl rfl (fun hc => ?_) (fun hc => ?_)
     .have q1:=q1 hc
      refine zReg mdT hX rfl rfl rfl ?_
      exact rTo (To.mk' [] 0 hε rfl zJ zJ) hj
     .refine rSkip ?_
      exact rTo (To.mk' [] 0 hε rfl zJ zJ) hj
   refine rLoopM (ref01_Round_b1 N c2) (fun s1=>⟨[(0,.v (.c (.int .i64 (c1.getD default)))),(1,.v (.c (.int .i64 (c2.getD default)))),(4,.v (.c (.int .i64 0))),(5,.v (.c (.int .i64 s1.1))),(6,.v (.c (.int .i64 s1.2)))],[],0⟩) hl (To.mk' [] 0 hε rfl zL zL) (fun s1 zs1 NNs1 hz hnexts1 houts1 => ?_)
   clear hl hT
   have hT:=hz;clear hz
   refine rSeq (rSeq (zReg mdT hX rfl rfl rfl ?_))
   refine rThen ?_
   refine zCond rfl rfl (fun hc => ?_) (fun hc => ?_)
   .replace hT:=sT hc hT
    refine rSkip (rThen (rSeq (rBlock ?_)))
    replace hT:=sIf hT;obtain⟨o1,hT⟩:=hT
    refine zReg mdT hX rfl rfl rfl ?_
    refine rInNormal (rThen ?_)
    replace hT:=sIf hT;obtain⟨o1,hT⟩:=hT
    refine zReg mdT hX rfl rfl rfl ?_
    exact hnexts1 _ (sJ hT).symm _ (To.mk' [] 0 hε rfl zL zL)
   .replace hT:=sF hc hT
    refine rExit (rThenExit (rThenExit ?_))
    exact zTo [] 0 hε (hxs10 _ (houts1 _ (sJ hT).symm))
 .cases h
def ref14_Forward_b2(N:Nat)(a1:(List Int)) (c1:(Option (List Int))) (s1:(Int×(List Int))) (s2:(Int×Int)):Option ((Int×Int)⊕(Int×Int×Int×Bool)):=
 bif(decide (s2.2<64))then
  if(0:Int)<=s2.2/\s2.2<64/\(s2.2).toNat<64 then
   let c4:=(ref01_Clip N (a1.getD (s2.2).toNat 0) (-2048) 2047)
   if((decide ((a1.getD (s2.2).toNat 0)≠0))=true->(0:Int)<=s1.1)/\((decide ((a1.getD (s2.2).toNat 0)≠0))=true->(0:Int)<=s2.2)/\((decide ((a1.getD (s2.2).toNat 0)≠0))=true->(0:Int)<=(s1.1%8))/\((decide ((a1.getD (s2.2).toNat 0)≠0))=true->(s1.1%8)<8)/\((decide ((a1.getD (s2.2).toNat 0)≠0))=true->(0:Int)<=(s2.2%8))/\((decide ((a1.getD (s2.2).toNat 0)≠0))=true->(s2.2%8)<8)/\((decide ((a1.getD (s2.2).toNat 0)≠0))=true->((s1.1%8).toNat*8+(s2.2%8).toNat)<64)/\((decide ((a1.getD (s2.2).toNat 0)≠0))=true->(0:Int)<=(s1.1/8))/\((decide ((a1.getD (s2.2).toNat 0)≠0))=true->(s1.1/8)<8)/\((decide ((a1.getD (s2.2).toNat 0)≠0))=true->(0:Int)<=(s2.2/8))/\((decide ((a1.getD (s2.2).toNat 0)≠0))=true->(s2.2/8)<8)/\((decide ((a1.getD (s2.2).toNat 0)≠0))=true->((s1.1/8).toNat*8+(s2.2/8).toNat)<64)/\((decide ((a1.getD (s2.2).toNat 0)≠0))=true->inK .i64 (((c1.getD default).getD ((s1.1%8).toNat*8+(s2.2%8).toNat) 0)*((c1.getD default).getD ((s1.1/8).toNat*8+(s2.2/8).toNat) 0)))/\((decide ((a1.getD (s2.2).toNat 0)≠0))=true->s2.2<64)/\((decide ((a1.getD (s2.2).toNat 0)≠0))=true->(s2.2).toNat<64)/\((decide ((a1.getD (s2.2).toNat 0)≠0))=true->c4.isSome=true)/\((decide ((a1.getD (s2.2).toNat 0)≠0))=true->inK .i64 ((((c1.getD default).getD ((s1.1%8).toNat*8+(s2.2%8).toNat) 0)*((c1.getD default).getD ((s1.1/8).toNat*8+(s2.2/8).toNat) 0))*(c4.getD default)))/\((decide ((a1.getD (s2.2).toNat 0)≠0))=true->inK .i64 (s2.1+((((c1.getD default).getD ((s1.1%8).toNat*8+(s2.2%8).toNat) 0)*((c1.getD default).getD ((s1.1/8).toNat*8+(s2.2/8).toNat) 0))*(c4.getD default))))then
    let x1:=(bif(decide ((a1.getD (s2.2).toNat 0)≠0))then(s2.1+((((c1.getD default).getD ((s1.1%8).toNat*8+(s2.2%8).toNat) 0)*((c1.getD default).getD ((s1.1/8).toNat*8+(s2.2/8).toNat) 0))*(c4.getD default)))else s2.1)
    if inK .i64 (s2.2+1)then
     some (.inl (x1,(s2.2+1)))
    else none
   else none
  else none
 else
  some (.inr (s2.1,s2.2,s2.2,(decide (s2.2<64))))
def ref14_Forward_b1(N:Nat)(a1:(List Int)) (c1:(Option (List Int))) (s1:(Int×(List Int))):Option ((Int×(List Int))⊕(List Int)):=
 bif(decide (s1.1<64))then
  (iter (ref14_Forward_b2 N a1 c1 s1) N (0,0)).bind fun v2=>
   let c2:=(ref01_Round N v2.1 15)
   let c3:=(ref01_Clip N (c2.getD default) (-2048) 2047)
   if c2.isSome=true/\c3.isSome=true/\(0:Int)<=s1.1/\s1.1<64/\(s1.1).toNat<64 then
    if inK .i64 (s1.1+1)then
     some (.inl ((s1.1+1),(s1.2.set (s1.1).toNat (c3.getD default))))
    else none
   else none
 else
  some (.inr s1.2)
def ref14_Forward(N:Nat)(a1:(List Int)):Option (List Int):=
 let c1:=(ref14_weights N)
 if c1.isSome=true then
  (iter (ref14_Forward_b1 N a1 c1) N (0,(List.replicate 64 0))).bind fun v1=>
   some v1
 else none
def sp_ref14_Forward(N:Nat):X.Spec:=fun args lk=>match args with
 | [.v (.agg [.ints 64 .i64 a1])]=>some ⟨(ref14_Forward N a1).isSome=true,.v (.agg [.ints 64 .i64 ((ref14_Forward N a1).getD default)]),[],[]⟩
 | _=>none
theorem ok_ref14_Forward(N:Nat):FnOK Tryz.prog gt0 93 (sp_ref14_Forward N):=by
 refine fnOK_handed Tryz.func93 rfl (by kernel_rfl) tt_ok (ktCons (ok_ref01_Clip N) (ktCons (ok_ref01_Round N) (ktCons (ok_ref14_weights N) (ktNil)))) ?_
 intro args lk r h hp
 unfold sp_ref14_Forward at h
 split at h
 .rename_i a1
  change (List Int)at a1
  cases h
  obtain⟨x,hT⟩:=sX hp;clear hp
  simp only[hT,Option.getD_some]
  refine hand0 rfl rfl fun w0 M ε0 hX=>rCount fun hε => ?_
  unfold ref14_Forward at hT
  refine zA hX ?_
  let c1:=(ref14_weights N)
  replace hT:=sIf hT;obtain⟨o1,hT⟩:=hT
  refine zA hX ?_
  refine zA hX ?_
  refine rSeq (zA hX ?_)
  refine rBlock ?_
  replace hT:=sBind hT;obtain⟨w1,hl,hT⟩:=hT
  refine rJoinA (fun v1=>v1=w1) (fun v1=>⟨[(2,.v (.c (.ptr 1 0 0 0 0 0))),(4,.v (.c (.ptr 3 0 0 0 0 0)))],[(1,.mem true 62 none (.flat [.ints 64 .i64 (List.replicate 64 0)])),(3,.mem true 62 none (.flat [.ints 64 .i64 v1]))],4⟩) (.exit 0) (fun v1 hv => ?_) (fun hxs10 => ?_)
  .subst hv;clear hl
   refine rInHit (rThen (zA hX ?_))
   refine rRet ?_
   have hy:=sJ hT;subst hy
   exact zEnd0 hX rfl
  refine rLoopM (ref14_Forward_b1 N a1 c1) (fun s1=>⟨[(1,.v (.c (.ptr 0 0 0 0 0 0))),(2,.v (.c (.ptr 1 0 0 0 0 0))),(3,.v (.c (.ptr 2 0 0 0 0 0))),(4,.v (.c (.ptr 3 0 0 0 0 0))),(5,.v (.c (.int .i64 s1.1)))],[(0,.mem true 62 none (.flat [.ints 64 .i64 a1])),(1,.mem true 62 none (.flat [.ints 64 .i64 (List.replicate 64 0)])),(2,.mem true 156 none (.flat [.ints 64 .i64 (c1.getD default)])),(3,.mem true 62 none (.flat [.ints 64 .i64 s1.2]))],4⟩) hl (To.mk' [] 0 hε rfl zL zL) (fun s1 zs1 NNs1 hz hnexts1 houts1 => ?_)
  clear hl hT
  have hT:=hz;clear hz
  refine rSeq (zA hX ?_)
  refine zCond rfl rfl (fun hc => ?_) (fun hc => ?_)
  .replace hT:=sT hc hT
   refine rSkip (rThen (rSeq (rBlock (zA hX ?_))))
   refine rSeq (zA hX ?_)
   refine rBlock ?_
   replace hT:=sBind hT;obtain⟨w2,hl,hT⟩:=hT
   refine rJoinA (fun v2=>v2=w2) (fun v2=>⟨[(1,.v (.c (.ptr 0 0 0 0 0 0))),(2,.v (.c (.ptr 1 0 0 0 0 0))),(3,.v (.c (.ptr 2 0 0 0 0 0))),(4,.v (.c (.ptr 3 0 0 0 0 0))),(5,.v (.c (.int .i64 s1.1))),(6,.v (.c (.int .i64 v2.1))),(7,.v (.c (.int .i64 v2.2.1))),(9,.v (.c (.int .i64 s1.1))),(10,.v (.c (.bool (decide (s1.1<64))))),(13,.v (.c (.int .i64 v2.2.2.1))),(14,.v (.c (.bool v2.2.2.2)))],[(0,.mem true 62 none (.flat [.ints 64 .i64 a1])),(1,.mem true 62 none (.flat [.ints 64 .i64 (List.replicate 64 0)])),(2,.mem true 156 none (.flat [.ints 64 .i64 (c1.getD default)])),(3,.mem true 62 none (.flat [.ints 64 .i64 s1.2]))],4⟩) (.exit 2) (fun v2 hv => ?_) (fun hxs20 => ?_)
   .subst hv;clear hl
    refine rInHit (rThen ?_)
    let c2:=(ref01_Round N v2.1 15)
    let c3:=(ref01_Clip N (c2.getD default) (-2048) 2047)
    replace hT:=sIf hT;obtain⟨⟨o1,o2,o3,o4,o5⟩,hT⟩:=hT
    refine zReg md0 hX rfl rfl rfl ?_
    refine rInNormal (rThen ?_)
    replace hT:=sIf hT;obtain⟨o1,hT⟩:=hT
    refine zReg md0 hX rfl rfl rfl ?_
    exact hnexts1 _ (sJ hT).symm _ (To.mk' [] 0 hε rfl zL zL)
   refine rLoopM (ref14_Forward_b2 N a1 c1 s1) (fun s2=>⟨[(1,.v (.c (.ptr 0 0 0 0 0 0))),(2,.v (.c (.ptr 1 0 0 0 0 0))),(3,.v (.c (.ptr 2 0 0 0 0 0))),(4,.v (.c (.ptr 3 0 0 0 0 0))),(5,.v (.c (.int .i64 s1.1))),(6,.v (.c (.int .i64 s2.1))),(7,.v (.c (.int .i64 s2.2))),(9,.v (.c (.int .i64 s1.1))),(10,.v (.c (.bool (decide (s1.1<64)))))],[(0,.mem true 62 none (.flat [.ints 64 .i64 a1])),(1,.mem true 62 none (.flat [.ints 64 .i64 (List.replicate 64 0)])),(2,.mem true 156 none (.flat [.ints 64 .i64 (c1.getD default)])),(3,.mem true 62 none (.flat [.ints 64 .i64 s1.2]))],4⟩) hl (To.mk' [] 0 hε rfl zL zL) (fun s2 zs2 NNs2 hz hnexts2 houts2 => ?_)
   clear hl hT
   have hT:=hz;clear hz
   refine rSeq (zA hX ?_)
   refine zCond rfl rfl (fun hc => ?_) (fun hc => ?_)
   .replace hT:=sT hc hT
    refine rSkip (rThen (rSeq (rBlock ?_)))
    replace hT:=sIf hT;obtain⟨⟨o1,o2,o3⟩,hT⟩:=hT
    refine zA hX ?_
    let c4:=(ref01_Clip N (a1.getD (s2.2).toNat 0) (-2048) 2047)
    replace hT:=sIf hT;obtain⟨⟨q1,q2,q3,q4,q5,q6,q7,q8,q9,q10,q11,q12,q13,q14,q15,q16,q17,q18⟩,hT⟩:=hT
    refine rJoin ⟨[(1,.v (.c (.ptr 0 0 0 0 0 0))),(2,.v (.c (.ptr 1 0 0 0 0 0))),(3,.v (.c (.ptr 2 0 0 0 0 0))),(4,.v (.c (.ptr 3 0 0 0 0 0))),(5,.v (.c (.int .i64 s1.1))),(6,.v (.c (.int .i64 (bif(decide ((a1.getD (s2.2).toNat 0)≠0))then(s2.1+((((c1.getD default).getD ((s1.1%8).toNat*8+(s2.2%8).toNat) 0)*((c1.getD default).getD ((s1.1/8).toNat*8+(s2.2/8).toNat) 0))*(c4.getD default)))else s2.1)))),(7,.v (.c (.int .i64 s2.2))),(9,.v (.c (.int .i64 s1.1))),(10,.v (.c (.bool (decide (s1.1<64))))),(13,.v (.c (.int .i64 s2.2))),(14,.v (.c (.bool (decide (s2.2<64))))),(17,.v (.c (.int .i64 s2.2))),(18,.v (.c (.ptr 0 0 0 0 1 (s2.2).toNat))),(19,.v (.c (.int .i64 (a1.getD (s2.2).toNat 0)))),(20,.v (.c (.bool (decide ((a1.getD (s2.2).toNat 0)≠0)))))],[(0,.mem true 62 none (.flat [.ints 64 .i64 a1])),(1,.mem true 62 none (.flat [.ints 64 .i64 (List.replicate 64 0)])),(2,.mem true 156 none (.flat [.ints 64 .i64 (c1.getD default)])),(3,.mem true 62 none (.flat [.ints 64 .i64 s1.2]))],4⟩ ?_ (fun hj => ?_)
    .let x1:=(bif(decide ((a1.getD (s2.2).toNat 0)≠0))then(s2.1+((((c1.getD default).getD ((s1.1%8).toNat*8+(s2.2%8).toNat) 0)*((c1.getD default).getD ((s1.1/8).toNat*8+(s2.2/8).toNat) 0))*(c4.getD default)))else s2.1)
     refine rInNormal (rThen ?_)
     replace hT:=sIf hT;obtain⟨o1,hT⟩:=hT
     refine zReg md0 hX rfl rfl rfl ?_
     exact hnexts2 _ (sJ hT).symm _ (To.mk' [] 0 hε rfl zL zL)
    .clear hT
     refine zCond rfl rfl (fun hc => ?_) (fun hc => ?_)
     .have q1:=q1 hc
      have q2:=q2 hc
      have q3:=q3 hc
      have q4:=q4 hc
      have q5:=q5 hc
      have q6:=q6 hc
      have q7:=q7 hc
      have q8:=q8 hc
      have q9:=q9 hc
      have q10:=q10 hc
      have q11:=q11 hc
      have q12:=q12 hc
      have q13:=q13 hc
      have q14:=q14 hc
      have q15:=q15 hc
      have q16:=q16 hc
      have q17:=q17 hc
      have q18:=q18 hc
      refine zDraw md0 1 [22] hX mixed rfl rfl rfl rfl rfl ?_
      exact rTo (To.mk' [] 0 hε rfl zJ zJ) hj
     .refine rSkip ?_
      exact rTo (To.mk' [] 0 hε rfl zJ zJ) hj
   .replace hT:=sF hc hT
    refine rExit (rThenExit (rThenExit ?_))
    exact zTo [] 0 hε (hxs20 _ (houts2 _ (sJ hT).symm))
  .replace hT:=sF hc hT
   refine rExit (rThenExit (rThenExit ?_))
   exact zTo [] 0 hε (hxs10 _ (houts1 _ (sJ hT).symm))
 .cases h
def ref12_amount(N:Nat)(a1:Int)(a2:Int):Option Int:=
 bif(decide (a1=0))then
  some 0
 else
  if(0:Int)<=a2 then
   bif(decide ((a2%2)=1))then
    if inK .i64 ((2:Int)*a1)/\inK .i64 (((2:Int)*a1)+1)/\inK .i64 (a2*(((2:Int)*a1)+1))then
     some (a2*(((2:Int)*a1)+1))
    else none
   else
    if inK .i64 ((2:Int)*a1)/\inK .i64 (((2:Int)*a1)+1)/\inK .i64 (a2*(((2:Int)*a1)+1))/\inK .i64 ((a2*(((2:Int)*a1)+1))-1)then
     some ((a2*(((2:Int)*a1)+1))-1)
    else none
  else none
def sp_ref12_amount(N:Nat):X.Spec:=fun args lk=>match args with
 | [.v (.c (.int .i64 a1)),.v (.c (.int .i64 a2))]=>some ⟨(ref12_amount N a1 a2).isSome=true,.v (.c (.int .i64 ((ref12_amount N a1 a2).getD default))),[],[]⟩
 | _=>none
theorem ok_ref12_amount(N:Nat):FnOK Tryz.prog gt0 118 (sp_ref12_amount N):=by
 refine fnOK_handed Tryz.func118 rfl (by kernel_rfl) tt_ok (ktNil) ?_
 intro args lk r h hp
 unfold sp_ref12_amount at h
 split at h
 .rename_i a1 a2
  cases h
  obtain⟨x,hT⟩:=sX hp;clear hp
  simp only[hT,Option.getD_some]
  refine hand0 rfl rfl fun w0 M ε0 hX=>rCount fun hε => ?_
  unfold ref12_amount at hT
  refine zA hX ?_
  refine rSeq (zA hX ?_)
  refine zCond rfl rfl (fun hc => ?_) (fun hc => ?_)
  .replace hT:=sT hc hT
   refine zA hX ?_
   refine rRet (rThenRet ?_)
   have hy:=sJ hT;subst hy
   exact zEnd0 hX rfl
  .replace hT:=sF hc hT
   refine rSkip (rThen (rSeq ?_))
   replace hT:=sIf hT;obtain⟨o1,hT⟩:=hT
   refine zA hX ?_
   refine zCond rfl rfl (fun hc => ?_) (fun hc => ?_)
   .replace hT:=sT hc hT
    replace hT:=sIf hT;obtain⟨⟨o1,o2,o3⟩,hT⟩:=hT
    refine zA hX ?_
    refine rRet (rThenRet ?_)
    have hy:=sJ hT;subst hy
    exact zEnd0 hX rfl
   .replace hT:=sF hc hT
    refine rSkip (rThen ?_)
    replace hT:=sIf hT;obtain⟨⟨o1,o2,o3,o4⟩,hT⟩:=hT
    refine zA hX ?_
    refine rRet ?_
    have hy:=sJ hT;subst hy
    exact zEnd0 hX rfl
 .cases h
def ref12_Value(N:Nat)(a1:Int)(a2:Int):Option Int:=
 let c1:=(ref01_Clip N a2 1 31)
 if c1.isSome=true then
  let c2:=(ref01_Clip N a1 (-127) 127)
  if c2.isSome=true then
   bif(decide ((c2.getD default)<0))then
    let c3:=(ref12_amount N (-(c2.getD default)) (c1.getD default))
    let c4:=(ref01_Clip N (-(c3.getD default)) (-2048) 2047)
    if inK .i64 (-(c2.getD default))/\c3.isSome=true/\inK .i64 (-(c3.getD default))/\c4.isSome=true then
     some (c4.getD default)
    else none
   else
    let c5:=(ref12_amount N (c2.getD default) (c1.getD default))
    let c6:=(ref01_Clip N (c5.getD default) (-2048) 2047)
    if c5.isSome=true/\c6.isSome=true then
     some (c6.getD default)
    else none
  else none
 else none
def sp_ref12_Value(N:Nat):X.Spec:=fun args lk=>match args with
 | [.v (.c (.int .i64 a1)),.v (.c (.int .i64 a2))]=>some ⟨(ref12_Value N a1 a2).isSome=true,.v (.c (.int .i64 ((ref12_Value N a1 a2).getD default))),[],[]⟩
 | _=>none
theorem ok_ref12_Value(N:Nat):FnOK Tryz.prog gt0 94 (sp_ref12_Value N):=by
 refine fnOK_handed Tryz.func94 rfl (by kernel_rfl) tt_ok (ktCons (ok_ref12_amount N) (ktCons (ok_ref01_Clip N) (ktNil))) ?_
 intro args lk r h hp
 unfold sp_ref12_Value at h
 split at h
 .rename_i a1 a2
  cases h
  obtain⟨x,hT⟩:=sX hp;clear hp
  simp only[hT,Option.getD_some]
  refine hand0 rfl rfl fun w0 M ε0 hX=>rCount fun hε => ?_
  unfold ref12_Value at hT
  refine zA hX ?_
  let c1:=(ref01_Clip N a2 1 31)
  replace hT:=sIf hT;obtain⟨o1,hT⟩:=hT
  refine zA hX ?_
  let c2:=(ref01_Clip N a1 (-127) 127)
  replace hT:=sIf hT;obtain⟨o1,hT⟩:=hT
  refine zA hX ?_
  refine rSeq (zA hX ?_)
  refine zCond rfl rfl (fun hc => ?_) (fun hc => ?_)
  .replace hT:=sT hc hT
   let c3:=(ref12_amount N (-(c2.getD default)) (c1.getD default))
   let c4:=(ref01_Clip N (-(c3.getD default)) (-2048) 2047)
   replace hT:=sIf hT;obtain⟨⟨o1,o2,o3,o4⟩,hT⟩:=hT
   refine zA hX ?_
   refine rRet (rThenRet ?_)
   have hy:=sJ hT;subst hy
   exact zEnd0 hX rfl
  .replace hT:=sF hc hT
   refine rSkip (rThen ?_)
   let c5:=(ref12_amount N (c2.getD default) (c1.getD default))
   let c6:=(ref01_Clip N (c5.getD default) (-2048) 2047)
   replace hT:=sIf hT;obtain⟨⟨o1,o2⟩,hT⟩:=hT
   refine zA hX ?_
   refine rRet ?_
   have hy:=sJ hT;subst hy
   exact zEnd0 hX rfl
 .cases h
def ref13_amount_b1(N:Nat)(a1:Int)(a2:Int)(s1:Int):Option (Int⊕Int):=
 if((decide (s1<127))=true->inK .i64 (s1+1))/\((decide (s1<127))=true->inK .i64 ((s1+1)*a2))then
  bif(bif(decide (s1<127))then(decide (((s1+1)*a2)<=a1))else false)then
   if inK .i64 (s1+1)then
    some (.inl (s1+1))
   else none
  else
   some (.inr s1)
 else none
def ref13_amount(N:Nat)(a1:Int)(a2:Int):Option Int:=
 (iter (ref13_amount_b1 N a1 a2) N 0).bind fun v1=>
  some v1
def sp_ref13_amount(N:Nat):X.Spec:=fun args lk=>match args with
 | [.v (.c (.int .i64 a1)),.v (.c (.int .i64 a2))]=>some ⟨(ref13_amount N a1 a2).isSome=true,.v (.c (.int .i64 ((ref13_amount N a1 a2).getD default))),[],[]⟩
 | _=>none
theorem ok_ref13_amount(N:Nat):FnOK Tryz.prog gt0 130 (sp_ref13_amount N):=by
 refine fnOK_handed Tryz.func130 rfl (by kernel_rfl) tt_ok (ktNil) ?_
 intro args lk r h hp
 unfold sp_ref13_amount at h
 split at h
 .rename_i a1 a2
  cases h
  obtain⟨x,hT⟩:=sX hp;clear hp
  simp only[hT,Option.getD_some]
  refine hand0 rfl rfl fun w0 M ε0 hX=>rCount fun hε => ?_
  unfold ref13_amount at hT
  refine zA hX ?_
  refine zA hX ?_
  refine rSeq (rBlock ?_)
  replace hT:=sBind hT;obtain⟨w1,hl,hT⟩:=hT
  refine rJoinA (fun v1=>v1=w1) (fun v1=>⟨[(4,.v (.c (.int .i64 0))),(5,.v (.c (.int .i64 v1)))],[],0⟩) (.exit 0) (fun v1 hv => ?_) (fun hxs10 => ?_)
  .subst hv;clear hl
   refine rInHit (rThen (zA hX ?_))
   refine rRet ?_
   have hy:=sJ hT;subst hy
   exact zEnd0 hX rfl
  refine rLoopM (ref13_amount_b1 N a1 a2) (fun s1=>⟨[(0,.v (.c (.int .i64 a1))),(1,.v (.c (.int .i64 a2))),(4,.v (.c (.int .i64 0))),(5,.v (.c (.int .i64 s1)))],[],0⟩) hl (To.mk' [] 0 hε rfl zL zL) (fun s1 zs1 NNs1 hz hnexts1 houts1 => ?_)
  clear hl hT
  have hT:=hz;clear hz
  refine rSeq ?_
  replace hT:=sIf hT;obtain⟨⟨o1,o2⟩,hT⟩:=hT
  refine rSeq (rRegC md0 hX rfl rfl rfl zO ?_)
  refine rThen ?_
  refine zCond rfl rfl (fun hc => ?_) (fun hc => ?_)
  .replace hT:=sT hc hT
   refine rSkip (rThen (rBlock ?_))
   replace hT:=sIf hT;obtain⟨o1,hT⟩:=hT
   refine zReg md0 hX rfl rfl rfl ?_
   refine rInNormal ?_
   exact hnexts1 _ (sJ hT).symm _ (To.mk' [] 0 hε rfl zL zL)
  .replace hT:=sF hc hT
   refine rExit (rThenExit (rThenExit ?_))
   exact zTo [] 0 hε (hxs10 _ (houts1 _ (sJ hT).symm))
 .cases h
def ref13_Level(N:Nat)(a1:Int)(a2:Int)(a3:Bool):Option Int:=
 let c1:=(ref01_Clip N a2 1 31)
 if c1.isSome=true then
  let c2:=(ref01_Clip N a1 (-2048) 2047)
  if c2.isSome=true then
   if(0:Int)<=(c1.getD default)then
    bif(decide ((c2.getD default)<0))then
     let c3:=(ref13_amount N ((-(c2.getD default))-(bif a3 then 0 else((c1.getD default)/2))) ((2:Int)*(c1.getD default)))
     if inK .i64 (-(c2.getD default))/\inK .i64 ((-(c2.getD default))-(bif a3 then 0 else((c1.getD default)/2)))/\inK .i64 ((2:Int)*(c1.getD default))/\c3.isSome=true/\inK .i64 (-(c3.getD default))then
      some (-(c3.getD default))
     else none
    else
     let c4:=(ref13_amount N ((c2.getD default)-(bif a3 then 0 else((c1.getD default)/2))) ((2:Int)*(c1.getD default)))
     if inK .i64 ((c2.getD default)-(bif a3 then 0 else((c1.getD default)/2)))/\inK .i64 ((2:Int)*(c1.getD default))/\c4.isSome=true then
      some (c4.getD default)
     else none
   else none
  else none
 else none
def sp_ref13_Level(N:Nat):X.Spec:=fun args lk=>match args with
 | [.v (.c (.int .i64 a1)),.v (.c (.int .i64 a2)),.v (.c (.bool a3))]=>some ⟨(ref13_Level N a1 a2 a3).isSome=true,.v (.c (.int .i64 ((ref13_Level N a1 a2 a3).getD default))),[],[]⟩
 | _=>none
theorem ok_ref13_Level(N:Nat):FnOK Tryz.prog gt0 119 (sp_ref13_Level N):=by
 refine fnOK_handed Tryz.func119 rfl (by kernel_rfl) tt_ok (ktCons (ok_ref13_amount N) (ktCons (ok_ref01_Clip N) (ktNil))) ?_
 intro args lk r h hp
 unfold sp_ref13_Level at h
 split at h
 .rename_i a1 a2 a3
  cases h
  obtain⟨x,hT⟩:=sX hp;clear hp
  simp only[hT,Option.getD_some]
  refine hand0 rfl rfl fun w0 M ε0 hX=>rCount fun hε => ?_
  unfold ref13_Level at hT
  refine zA hX ?_
  let c1:=(ref01_Clip N a2 1 31)
  replace hT:=sIf hT;obtain⟨o1,hT⟩:=hT
  refine zA hX ?_
  let c2:=(ref01_Clip N a1 (-2048) 2047)
  replace hT:=sIf hT;obtain⟨o1,hT⟩:=hT
  refine zA hX ?_
  replace hT:=sIf hT;obtain⟨o1,hT⟩:=hT
  refine zA hX ?_
  refine rSeq (zA hX ?_)
  refine rJoin ⟨[(6,.v (.c (.int .i64 0))),(7,.v (.c (.int .i64 (c1.getD default)))),(8,.v (.c (.int .i64 (c2.getD default)))),(9,.v (.c (.int .i64 (bif a3 then 0 else((c1.getD default)/2)))))],[],0⟩ ?_ (fun hj => ?_)
  .refine rThen (rSeq (zA hX ?_))
   refine zCond rfl rfl (fun hc => ?_) (fun hc => ?_)
   .replace hT:=sT hc hT
    let c3:=(ref13_amount N ((-(c2.getD default))-(bif a3 then 0 else((c1.getD default)/2))) ((2:Int)*(c1.getD default)))
    replace hT:=sIf hT;obtain⟨⟨o1,o2,o3,o4,o5⟩,hT⟩:=hT
    refine zA hX ?_
    refine rRet (rThenRet ?_)
    have hy:=sJ hT;subst hy
    exact zEnd0 hX rfl
   .replace hT:=sF hc hT
    refine rSkip (rThen ?_)
    let c4:=(ref13_amount N ((c2.getD default)-(bif a3 then 0 else((c1.getD default)/2))) ((2:Int)*(c1.getD default)))
    replace hT:=sIf hT;obtain⟨⟨o1,o2,o3⟩,hT⟩:=hT
    refine zA hX ?_
    refine rRet ?_
    have hy:=sJ hT;subst hy
    exact zEnd0 hX rfl
  .clear hT
   refine zCond rfl rfl (fun hc => ?_) (fun hc => ?_)
   .refine zReg md0 hX rfl rfl rfl ?_
    exact rTo (To.mk' [] 0 hε rfl zJ zJ) hj
   .refine rSkip ?_
    exact rTo (To.mk' [] 0 hε rfl zJ zJ) hj
 .cases h
def ref13_Block_b1(N:Nat)(a1:(List Int))(a2:Int)(a3:Bool) (s1:(Int×(List Int))):Option ((Int×(List Int))⊕(List Int)):=
 bif(decide (s1.1<64))then
  joinK (fun(v2:(List Int))=>
   if inK .i64 (s1.1+1)then
    some (.inl ((s1.1+1),v2))
   else none
  ) fun k1=>
   bif(bif(decide ((0:Int)<s1.1))then true else(!a3))then
    let c1:=(ref13_Level N (a1.getD (s1.1).toNat 0) a2 a3)
    if(0:Int)<=s1.1/\s1.1<64/\(s1.1).toNat<64/\c1.isSome=true then
     k1 (s1.2.set (s1.1).toNat (c1.getD default))
    else none
   else
    k1 s1.2
 else
  some (.inr s1.2)
def ref13_Block(N:Nat)(a1:(List Int))(a2:Int)(a3:Bool):Option (List Int):=
 (iter (ref13_Block_b1 N a1 a2 a3) N (0,(List.replicate 64 0))).bind fun v1=>
  some v1
def sp_ref13_Block(N:Nat):X.Spec:=fun args lk=>match args with
 | [.v (.agg [.ints 64 .i64 a1]),.v (.c (.int .i64 a2)),.v (.c (.bool a3))]=>some ⟨(ref13_Block N a1 a2 a3).isSome=true,.v (.agg [.ints 64 .i64 ((ref13_Block N a1 a2 a3).getD default)]),[],[]⟩
 | _=>none
theorem ok_ref13_Block(N:Nat):FnOK Tryz.prog gt0 95 (sp_ref13_Block N):=by
 refine fnOK_handed Tryz.func95 rfl (by kernel_rfl) tt_ok (ktCons (ok_ref13_Level N) (ktNil)) ?_
 intro args lk r h hp
 unfold sp_ref13_Block at h
 split at h
 .rename_i a1 a2 a3
  change (List Int)at a1
  cases h
  obtain⟨x,hT⟩:=sX hp;clear hp
  simp only[hT,Option.getD_some]
  refine hand0 rfl rfl fun w0 M ε0 hX=>rCount fun hε => ?_
  unfold ref13_Block at hT
  refine zA hX ?_
  refine zA hX ?_
  refine rSeq (zA hX ?_)
  refine rBlock ?_
  replace hT:=sBind hT;obtain⟨w1,hl,hT⟩:=hT
  refine rJoinA (fun v1=>v1=w1) (fun v1=>⟨[(6,.v (.c (.ptr 1 0 0 0 0 0))),(7,.v (.c (.ptr 2 0 0 0 0 0)))],[(1,.mem true 62 none (.flat [.ints 64 .i64 (List.replicate 64 0)])),(2,.mem true 62 none (.flat [.ints 64 .i64 v1]))],3⟩) (.exit 0) (fun v1 hv => ?_) (fun hxs10 => ?_)
  .subst hv;clear hl
   refine rInHit (rThen (zA hX ?_))
   refine rRet ?_
   have hy:=sJ hT;subst hy
   exact zEnd0 hX rfl
  refine rLoopM (ref13_Block_b1 N a1 a2 a3) (fun s1=>⟨[(1,.v (.c (.int .i64 a2))),(2,.v (.c (.bool a3))),(3,.v (.c (.ptr 0 0 0 0 0 0))),(6,.v (.c (.ptr 1 0 0 0 0 0))),(7,.v (.c (.ptr 2 0 0 0 0 0))),(8,.v (.c (.int .i64 s1.1)))],[(0,.mem true 62 none (.flat [.ints 64 .i64 a1])),(1,.mem true 62 none (.flat [.ints 64 .i64 (List.replicate 64 0)])),(2,.mem true 62 none (.flat [.ints 64 .i64 s1.2]))],3⟩) hl (To.mk' [] 0 hε rfl zL zL) (fun s1 zs1 NNs1 hz hnexts1 houts1 => ?_)
  clear hl hT
  have hT:=hz;clear hz
  refine rSeq (zA hX ?_)
  refine zCond rfl rfl (fun hc => ?_) (fun hc => ?_)
  .replace hT:=sT hc hT
   refine rSkip (rThen (rSeq (rBlock (zA hX ?_))))
   refine rJoinK hT (fun v2=>⟨[(1,.v (.c (.int .i64 a2))),(2,.v (.c (.bool a3))),(3,.v (.c (.ptr 0 0 0 0 0 0))),(6,.v (.c (.ptr 1 0 0 0 0 0))),(7,.v (.c (.ptr 2 0 0 0 0 0))),(8,.v (.c (.int .i64 s1.1))),(9,.v (.c (.int .i64 s1.1))),(10,.v (.c (.bool (decide (s1.1<64))))),(13,.v (.c (.int .i64 s1.1))),(14,.v (.c (.bool (decide ((0:Int)<s1.1))))),(15,.v (.c (.bool (decide ((0:Int)<s1.1))))),(18,.v (.c (.bool (bif(decide ((0:Int)<s1.1))then true else(!a3)))))],[(0,.mem true 62 none (.flat [.ints 64 .i64 a1])),(1,.mem true 62 none (.flat [.ints 64 .i64 (List.replicate 64 0)])),(2,.mem true 62 none (.flat [.ints 64 .i64 v2]))],3⟩) (fun v2 hT => ?_) (fun k1 hjk1 hT => ?_)
   .refine rInNormal (rThen ?_)
    replace hT:=sIf hT;obtain⟨o1,hT⟩:=hT
    refine zReg md0 hX rfl rfl rfl ?_
    exact hnexts1 _ (sJ hT).symm _ (To.mk' [] 0 hε rfl zL zL)
   .refine zCond rfl rfl (fun hc => ?_) (fun hc => ?_)
    .replace hT:=sT hc hT
     let c1:=(ref13_Level N (a1.getD (s1.1).toNat 0) a2 a3)
     replace hT:=sIf hT;obtain⟨⟨o1,o2,o3,o4⟩,hT⟩:=hT
     refine zReg md0 hX rfl rfl rfl ?_
     exact zTo [] 0 hε (hjk1 _ hT)
    .replace hT:=sF hc hT
     refine rSkip ?_
     exact zTo [] 0 hε (hjk1 _ hT)
  .replace hT:=sF hc hT
   refine rExit (rThenExit (rThenExit ?_))
   exact zTo [] 0 hε (hxs10 _ (houts1 _ (sJ hT).symm))
 .cases h
end Go.Proofs.YtnpokkaalcfbfaaGreatDoor
