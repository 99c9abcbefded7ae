/- What the printed models answer: plain laws. -/
import Derived.Test.YtnpokkaalcfbfaaGreatDoorZI
set_option linter.unusedVariables false
set_option linter.unusedSimpArgs false
namespace Go.Proofs.YtnpokkaalcfbfaaGreatDoor
open Go.X
variable {f:Int} {l:List Ev}
def dres(f g:Int)(ps zs:List (List Int))(n:Int)(mv:List Int):List Int×Int:=bif rightF f ps&&(sRight g zs&&decide (f=g))then(bif hasF f n then bif mayF f n mv then(driftT f ps zs n mv,0)else(List.replicate 384 0,8)else(List.replicate 384 0,1))else(List.replicate 384 0,1)
theorem dres_len(f g:Int)(ps zs:List (List Int))(n:Int)(mv:List Int):(dres f g ps zs n mv).1.length=384:=by
 unfold dres
 cases (rightF f ps&&(sRight g zs&&decide (f=g)))
 .exact List.length_replicate
 .cases hasF f n
  .exact List.length_replicate
  .cases mayF f n mv
   .exact List.length_replicate
   .exact tab_len _ _
def mkR(f g:Int)(ps zs:List (List Int))(n:Int)(st:Int)(sk:Bool)(k s:Int)(mv dc:List Int)(evs:Evs)(p q step:Int):CellR:=
 bif rightB true st sk k s mv dc evs then(bif intraB k then okR k mv dc (fcT k evs (List.replicate 384 0) p q) step else bif decide ((dres f g ps zs n mv).2≠0)then Zc (dres f g ps zs n mv).2 else okR k mv dc (fcT k evs (dres f g ps zs n mv).1 p q) step)else Zc 12
theorem cmake_ok{M:Nat}(hM:40000<=M)(f g:Int){ps zs:List (List Int)}(n:Int)(st:Int)(sk:Bool)(k s:Int){mv dc:List Int}{evs:Evs}(p q step:Int)(hm:mv.length=2)(hd:dc.length=6)(h:fewP evs)(hp:∀k,k<3->byteP (ps.getD k []))(hl:∀k,k<3->(ps.getD k []).length<=30000)(hz:∀k,k<3->(zs.getD k []).length<=30000):
  cellx_Make (M+200) f ps g zs n st sk k s mv dc evs p q step=some (mkR f g ps zs n st sk k s mv dc evs p q step):=by
 unfold cellx_Make mkR
 have c4:=sdrift_ok (N:=M+200) (by omega) f g n mv hp hl hz
 rw[show(bif rightF f ps&&(sRight g zs&&decide (f=g))then(bif hasF f n then bif mayF f n mv then(driftT f ps zs n mv,(0:Int))else(List.replicate 384 0,8)else(List.replicate 384 0,1))else(List.replicate 384 0,1))=dres f g ps zs n mv from rfl]at c4
 have dl:=dres_len f g ps zs n mv
 generalize dres f g ps zs n mv=d at *
 obtain⟨Z,hZ⟩:∃Z,Z=List.replicate 384 (0:Int):=⟨_,rfl⟩
 have hZl:Z.length=384:=by rw[hZ];exact List.length_replicate
 rw[res_levels st sk k s hm hd h,<-hZ,c4]
 cases hr:rightB true st sk k s mv dc evs
 .rfl
 .have e0:decide ((0:Int)≠0)=false:=rfl
  have ff:∀xs:List Int,xs.length=384->feed_Cell (M+200) st sk k s mv dc evs xs p q=some (fcT k evs xs p q,0):=fun xs hx=>by
   rw[fcell_ok (by omega) st sk k s p q hm hd hx h,hr,cond_true]
  have pp:∀xs:List Int,xs.length=384->pattern_Cell (M+200) st sk k s mv dc evs xs step=some (okR k mv dc xs step):=fun xs hx=>by
   rw[pcell_ok st sk k s step hm hd h hx,hr,cond_true]
  have fl:∀xs:List Int,(fcT k evs xs p q).length=384:=fun xs=>tab_len _ _
  have hk:(bif decide (k≠3)then decide (k≠4)else false)=!intraB k:=by
   unfold intraB
   by_cases h3:k=3
   .subst h3;rfl
   .by_cases h4:k=4
    .subst h4;rfl
    .simp[h3,h4]
  have jk':∀(F:List Int->Option CellR) (G:(List Int->Option CellR)->Option CellR),joinK F G=G F:=fun _ _=>rfl
  simp only[cond_true,cond_false,Option.isSome_some,Option.getD_some,if_true,e0,hk,jk',ff Z hZl,ff d.1 dl,pp _ (fl _)]
  cases intraB k
  .cases decide (d.2≠0)
   .rfl
   .rfl
  .rfl
theorem light_ok{N:Nat}(hN:10<N)(f:Int)(ps:List (List Int))(g:Int)(zs:List (List Int))(st:Int)(sk:Bool)(k s:Int)(mv dc:List Int)(evs:Evs):∃b,law38_light N f ps g zs st sk k s mv dc evs=some b/\(b=true->fewP evs/\(∀k,k<3->(ps.getD k []).length<=30000)/\∀k,k<3->(zs.getD k []).length<=30000):=by
 unfold law38_light
 obtain⟨hy,hn⟩:=iter_try (body:=law38_light_b1 N evs) (fun i=>(i:Int)) 6 N (fun i=>decide ((evs.getD i []).length<=100)) (fun _=>.inl ()) (.inr ()) (s0:=0) rfl
  (fun i hi hP=>by
   obtain⟨g1,g2,g3⟩:=in5 hi
   have g4:=inS (i:=i) (by omega)
   simp only[decide_eq_true_eq]at hP
   have:¬(100:Int)<((evs.getD i []).length:Int):=by omega
   simp only[law38_light_b1,g1,g2,hi,decide_true,cond_true,Int.toNat_natCast,and_self,if_true,g4,this,decide_false,cond_false]
   rw[Int.natCast_succ])
  (fun i hi hP=>by
   obtain⟨g1,g2,g3⟩:=in5 hi
   simp only[decide_eq_false_iff_not]at hP
   have:(100:Int)<((evs.getD i []).length:Int):=by omega
   simp only[law38_light_b1,g1,g2,hi,decide_true,cond_true,Int.toNat_natCast,and_self,if_true,this])
  (by simp[law38_light_b1]) (by omega)
 cases hall:(List.range 6).all (fun i=>decide ((evs.getD i []).length<=100))with
 | false=>
  obtain⟨j,_,_,hj⟩:=hn hall
  rw[hj]
  exact⟨false,rfl,fun h=>by cases h⟩
 | true=>
  have hf:fewP evs:=fun i hi=>by simpa using List.all_eq_true.1 hall i (List.mem_range.2 hi)
  obtain⟨b1,h1,l1⟩:=few_len17 (N:=N) (f:=f) (zs:=ps)
  obtain⟨b2,h2,l2⟩:=few_len (N:=N) (f:=g) (zs:=zs)
  rw[hy hall,h1,h2]
  refine⟨bif b1 then b2 else false,?_,fun hb => ?_⟩
  .simp only[Option.bind_some,Sum.elim_inr,Option.isSome_some,Option.getD_some,implies_true,and_self,if_true]
  .cases b1
   .cases hb
   .cases b2
    .cases hb
    .exact⟨hf,l1 rfl,l2 rfl⟩
theorem hv_flat{f n:Int}{mv:List Int}{c:Int}(hA:fA f≠0)(hm:mayF f n mv=true){b i:Nat}(hb:b<6)(hi:i<64):(prT f (flatP f c) n mv).getD (b*64+i) 0=c:=by
 obtain⟨e1,e2⟩:=blk_div (b:=b) hi
 unfold prT
 rw[tab_get _ _ (by omega),e1,e2]
 unfold prF
 obtain⟨x0,x1,y0,y1⟩:=in_plane hm hb hi
 have hk3:pk b<3:=by unfold pk;omega
 rw[flat_get _ _ hk3]
 generalize xb f n mv b+2*((i%8:Nat):Int)=x at *
 generalize yb f n mv b+2*((i/8:Nat):Int)=y at *
 have at_:∀u v:Int,0<=u->u<wid f (pk b)->0<=v->v<hig f (pk b)->(tab (areaN f (pk b)) fun _=>c).getD (v*wid f (pk b)+u).toNat 0=c:=fun u v u0 u1 v0 v1=>by
  have:=idx_lt u0 u1 v0 v1
  rw[tab_get _ _ (by unfold areaN;omega)]
 unfold hv
 rw[at_ (x/2) (y/2) (by omega) (by omega) (by omega) (by omega),at_ (x/2+x%2) (y/2) (by omega) (by omega) (by omega) (by omega),at_ (x/2) (y/2+y%2) (by omega) (by omega) (by omega) (by omega),at_ (x/2+x%2) (y/2+y%2) (by omega) (by omega) (by omega) (by omega)]
 omega
theorem drift10:driftT 6 (flatP 6 100) (diffT (flatP 6 110) (flatP 6 100)) 0 [0,0]=List.replicate 384 10:=by
 have hA:fA 6≠0:=by decide
 have hm:mayF 6 0 [0,0]=true:=may_still (by decide)
 have ha:∀k,k<3->(addT (flatP 6 100) (diffT (flatP 6 110) (flatP 6 100))).getD k []=(flatP 6 110).getD k []:=fun k hk=>by
  rw[add_get _ _ hk,diff_get _ _ hk,flat_get _ _ hk,flat_get _ _ hk,tab_len,tab_len]
  exact tab_ext fun i hi=>by simp only[tab_get _ _ hi];rfl
 have hp:prT 6 (addT (flatP 6 100) (diffT (flatP 6 110) (flatP 6 100))) 0 [0,0]=prT 6 (flatP 6 110) 0 [0,0]:=by
  unfold prT prF
  exact tab_ext fun j hj=>by rw[ha (pk (j/64)) (by unfold pk;omega)]
 unfold driftT
 rw[rep_tab,hp]
 refine tab_ext fun j hj => ?_
 have e:j=j/64*64+j%64:=by omega
 rw[e,hv_flat hA hm (by omega) (by omega),hv_flat hA hm (by omega) (by omega)]
 rfl
theorem fb_ext{L L' R R':Nat->Int}(hL:∀i,i<64->L i=L' i)(hR:∀i,i<64->R i=R' i)(p q:Int)(b:Bool){k:Nat}(hk:k<64):fb L R p q b k=fb L' R' p q b k:=by
 have h1:=feed_eq (N:=1000) (by omega) L R p q b
 have h2:=feed_eq (N:=1000) (by omega) L' R' p q b
 rw[tab_ext hL,tab_ext hR,h2]at h1
 exact(tab_inj (Option.some.inj h1) k hk).symm
theorem fb10:∀k,k<64->fb (fun _=>0) (fun _=>10) 5 5 false k=if k=0 then 7 else 0:=by decide +kernel
theorem fc10:fcT 0 (List.replicate 6 []) (List.replicate 384 10) 5 5=tab 384 fun j=>if j%64=0 then 7 else 0:=by
 unfold fcT
 refine tab_ext fun j hj => ?_
 show fb _ _ 5 5 false _=_
 have h1:∀b,b<6->(List.replicate 6 ([]:List Ev)).getD b []=[]:=fun b hb=>by rw[rep_tab,tab_get _ _ hb]
 rw[fb_ext (L':=fun _=>0) (R':=fun _=>10) (fun i hi => ?_) (fun i hi => ?_) 5 5 false (show j%64<64 by omega),fb10 _ (by omega)]
 .unfold LVc
  rw[h1 (j/64) (by omega)]
  simp only[lvs,List.length_nil]
  rw[rep_tab,tab_get _ _ (lp_facts _ hi).1]
 .show(List.replicate 384 (10:Int)).getD (64*(j/64)+i) 0=10
  rw[rep_tab,tab_get _ _ (by omega)]
theorem ok10:okR 0 (List.replicate 2 0) (List.replicate 6 0) (tab 384 fun j=>if j%64=0 then 7 else 0) 0=(0,false,0,0,List.replicate 2 0,List.replicate 6 0,List.replicate 6 [(true,((0:Int),(7:Int)))],0):=by kernel_rfl
theorem lives38{M:Nat}(hM:50000<=M):law38_lives (M+200)=some true:=by
 have hA0:fA 6≠0:=by decide
 have hA:decide (fA 6≠0)=true:=decide_eq_true hA0
 have e100:clip 100 0 255=100:=rfl
 have e110:clip 110 0 255=110:=rfl
 have a0:areaN 6 0=1024:=by decide
 have a1:areaN 6 1=256:=by decide
 have a2:areaN 6 2=256:=by decide
 have hl:∀s:Int,∀k,k<3->((flatP 6 s).getD k []).length<=30000:=fun s k hk=>by
  rw[flat_get _ _ hk,tab_len]
  rcases(show k=0\/k=1\/k=2 by omega)with rfl|rfl|rfl<;>omega
 have hb1:=flat_byte (f:=6) (s:=100) (by decide) (by decide)
 have hb2:=flat_byte (f:=6) (s:=110) (by decide) (by decide)
 have hd:∀k,k<3->((diffT (flatP 6 110) (flatP 6 100)).getD k []).length<=30000:=fun k hk=>by
  rw[diff_get _ _ hk,tab_len];exact hl 110 k hk
 have r1:=flat_right (s:=100) hA0
 have r2:=flat_right (s:=110) hA0
 have hs:=diff_right r2 hb2 hb1
 have t:decide ((6:Int)=6)=true:=rfl
 have hdr:dres 6 6 (flatP 6 100) (diffT (flatP 6 110) (flatP 6 100)) 0 (List.replicate 2 0)=(List.replicate 384 10,0):=by
  unfold dres
  have hh:hasF 6 0=true:=by decide
  have hm:mayF 6 0 [0,0]=true:=may_still hh
  rw[show(List.replicate 2 (0:Int))=[0,0] from rfl,r1,hs,t,hh,hm,drift10]
  rfl
 have hr:rightB true 0 true 0 0 (List.replicate 2 0) (List.replicate 6 0) (List.replicate 6 [])=true:=by decide +kernel
 have hmk:mkR 6 6 (flatP 6 100) (diffT (flatP 6 110) (flatP 6 100)) 0 0 true 0 0 (List.replicate 2 0) (List.replicate 6 0) (List.replicate 6 []) 5 5 0=(0,false,0,0,List.replicate 2 0,List.replicate 6 0,List.replicate 6 [(true,((0:Int),(7:Int)))],0):=by
  unfold mkR
  have hi:intraB 0=false:=rfl
  have d0:decide ((0:Int)≠0)=false:=rfl
  rw[hr,hdr,hi]
  simp only[cond_true,cond_false,d0]
  rw[fc10,ok10]
 have few:fewP (List.replicate 6 []):=fun i hi=>by rw[rep_tab,tab_get _ _ hi];exact Nat.zero_le _
 have c3:=sdiff_ok (N:=M+200) (by omega) 6 6 hb2 hb1 (hl 110)
 rw[r1,r2,t]at c3
 have c4:=cmake_ok (M:=M) (by omega) 6 6 0 0 true 0 0 5 5 0 (mv:=List.replicate 2 0) (dc:=List.replicate 6 0) (evs:=List.replicate 6 []) (by rfl) (by rfl) few hb1 (hl 100) hd
 rw[hmk]at c4
 unfold law38_lives
 simp only[pnew_ok (N:=M+200) (by omega),hA,cond_true,e100,e110,Option.isSome_some,Option.getD_some,if_true]
 rw[c3]
 generalize diffT (flatP 6 110) (flatP 6 100)=D at *
 simp only[Bool.and_self,cond_true,Option.isSome_some,Option.getD_some,if_true,c4]
 rfl
theorem okR_len(k:Int)(mv dc xs:List Int)(step:Int):∀i,i<6->((okR k mv dc xs step).2.2.2.2.2.2.1.getD i []).length<=64:=by
 have hz:∀i,i<6->((List.replicate 6 ([]:List Ev)).getD i []).length<=64:=by
  intro i hi
  rw[rep_tab,tab_get _ _ hi];simp
 intro i hi
 unfold okR
 cases (!stB step&&decide (step≠0))
 .cases (List.range 6).all (bok k xs)
  .exact hz i hi
  .cases skipB k step xs mv
   .simp only[cond_false,cond_true]
    unfold pevs
    rw[tab_get _ _ hi]
    exact evts_len _ _
   .exact hz i hi
 .exact hz i hi
theorem rmake_ok{M:Nat}(hM:3000000<=M)(f g:Int){ps zs:List (List Int)}(n:Int)(st:Int)(sk:Bool)(k s:Int){mv dc:List Int}{evs:Evs}(p q step:Int)(hm:mv.length=2)(h:fewP evs)(ho:∀i,i<6->okE (bif intraB k then 1 else 0) (evs.getD i [])=true){xs:List Int}(hx:xs.length=384)(hd:(bif !intraB k then xs else List.replicate 384 0)=xs)(hc:intraB k=false->ref34_Drift (M+200) f ps g zs n mv=some xs):
  ref38_Make (M+200) f ps g zs n st sk k s mv dc evs ((((List.replicate 3 0).set 0 p).set 1 q).set 2 step)=some (okR k mv dc (fcT k evs xs p q) step):=by
 have hi:ref21_Intra (M+200) k=some (intraB k):=rfl
 have t0:((((List.replicate 3 (0:Int)).set 0 p).set 1 q).set 2 step).getD 0 0=p:=rfl
 have t1:((((List.replicate 3 (0:Int)).set 0 p).set 1 q).set 2 step).getD 1 0=q:=rfl
 have t2:((((List.replicate 3 (0:Int)).set 0 p).set 1 q).set 2 step).getD 2 0=step:=rfl
 have k3:=rfcell_ok (M:=M) (by omega) st sk k s mv dc p q hx h ho
 have fl:(fcT k evs xs p q).length=384:=tab_len _ _
 have k4:=rcell_ok (M:=M) st sk k s (mv:=mv) (dc:=dc) (evs:=evs) step hm fl
 unfold ref38_Make
 rw[hi,t0,t1,t2]
 have hd':(bif !intraB k then(ref34_Drift (M+200) f ps g zs n mv).getD default else List.replicate 384 0)=xs:=by
  cases hk:intraB k with
  | true=>rw[hk]at hd;exact hd
  | false=>rw[hc hk];rfl
 have hs:((!intraB k)=true->(ref34_Drift (M+200) f ps g zs n mv).isSome=true):=fun hh=>by
  rw[hc (by simpa using hh)];rfl
 simp only[Option.isSome_some,Option.getD_some,if_true,hd',k3,k4,and_self]
 rw[if_pos hs]
theorem cmakes_law{M:Nat}(hM:3000000<=M)(f g:Int){ps zs:List (List Int)}(st:Int)(sk:Bool)(k s:Int){mv dc:List Int}{evs:Evs}(n p q step:Int)(hm:mv.length=2)(hd:dc.length=6)(hp:∀k,k<3->byteP (ps.getD k [])):law38_CellxMakes (M+200) f ps g zs st sk k s mv dc evs n p q step=some true:=by
 have hv:=lives38 (M:=M) (by omega)
 obtain⟨b,hb,hB⟩:=light_ok (N:=M+200) (by omega) f ps g zs st sk k s mv dc evs
 unfold law38_CellxMakes
 rw[hb,hv]
 cases b with
 | false=>simp only[Option.isSome_some,Option.getD_some,if_true,Bool.not_false,cond_true]
 | true=>
  obtain⟨hf,hl,hz⟩:=hB rfl
  have hi:ref21_Intra (M+200) k=some (intraB k):=rfl
  have z6:∀i,i<6->((List.replicate 6 ([]:List Ev)).getD i []).length<=1000:=fun i hi=>by rw[rep_tab,tab_get _ _ hi];simp
  have hs0:=csame_ok (N:=M+200) (by omega) 0 false 0 0 (List.replicate 2 0) (List.replicate 6 0) z6
  rw[cmake_ok (M:=M) (by omega) f g n st sk k s p q step hm hd hf hp hl hz,rright_ok (N:=M+200) (by omega) true st sk k s hm hd hf,hi,rpright_ok (N:=M+200) (by omega),rsright_ok (N:=M+200) (by omega) g hz,rmany_eq,rmay_okF (N:=M+200) (by omega)]
  obtain⟨Z,hZ⟩:∃Z,Z=List.replicate 384 (0:Int):=⟨_,rfl⟩
  have hZl:Z.length=384:=by rw[hZ];exact List.length_replicate
  have hb1:(bif(bif(!rightF f ps)then true else(!sRight g zs))then true else decide (f≠g))=!(rightF f ps&&(sRight g zs&&decide (f=g))):=by
   cases rightF f ps<;>cases sRight g zs<;>by_cases h:f=g<;>simp[h]
  have hb2:=not_has34 (f:=f) (R:=(rightF f ps&&(sRight g zs&&decide (f=g)))) (n:=n) rfl
  have d12:decide ((12:Int)≠0)=true:=rfl
  have d1:decide ((1:Int)≠0)=true:=rfl
  have d8:decide ((8:Int)≠0)=true:=rfl
  have d0:decide ((0:Int)≠0)=false:=rfl
  have fin:∀xs:List Int,xs.length=384->ref21_Same (M+200) (okR k mv dc xs step).1 (okR k mv dc xs step).2.1 (okR k mv dc xs step).2.2.1 (okR k mv dc xs step).2.2.2.1 (okR k mv dc xs step).2.2.2.2.1 (okR k mv dc xs step).2.2.2.2.2.1 (okR k mv dc xs step).2.2.2.2.2.2.1 (okR k mv dc xs step).1 (okR k mv dc xs step).2.1 (okR k mv dc xs step).2.2.1 (okR k mv dc xs step).2.2.2.1 (okR k mv dc xs step).2.2.2.2.1 (okR k mv dc xs step).2.2.2.2.2.1 (okR k mv dc xs step).2.2.2.2.2.2.1=some true:=fun xs _=>
   csame_ok (N:=M+200) (by omega) _ _ _ _ _ _ (fun i hi=>Nat.le_trans (okR_len k mv dc xs step i hi) (by omega))
  unfold mkR
  rw[<-hZ]
  cases hr:rightB true st sk k s mv dc evs with
  | false=>simp only[Option.isSome_some,Option.getD_some,if_true,Bool.not_true,Bool.not_false,cond_true,cond_false,implies_true,and_self,Bool.true_eq_false,false_implies,d12,Zc,hs0,decide_true]
  | true=>
   have hoe:=right_okE hr
   cases hk:intraB k with
   | true=>
    have hmk:=rmake_ok (M:=M) hM f g (ps:=ps) (zs:=zs) n st sk k s (dc:=dc) p q step hm hf hoe hZl (by rw[hk,hZ];rfl) (fun h=>by rw[hk]at h;cases h)
    have hfin:=fin (fcT k evs Z p q) (tab_len _ _)
    simp only[Option.isSome_some,Option.getD_some,if_true,Bool.not_true,Bool.not_false,cond_true,cond_false,implies_true,and_self,Bool.true_eq_false,Bool.false_eq_true,false_implies,d0,hmk,hfin,decide_true]
   | false=>
    have hdl:=dres_len f g ps zs n mv
    simp only[Option.isSome_some,Option.getD_some,if_true,Bool.not_true,Bool.not_false,cond_true,cond_false,implies_true,and_self,hb1,hb2]
    cases h1:(rightF f ps&&(sRight g zs&&decide (f=g)))with
    | false=>
     have e:dres f g ps zs n mv=(Z,1):=by unfold dres;rw[h1,hZ];rfl
     simp only[e,Bool.false_and,Bool.not_false,cond_true,d1,Zc,hs0,Option.isSome_some,Option.getD_some,implies_true,and_self,if_true,decide_true]
    | true=>
     cases h2:hasF f n with
     | false=>
      have e:dres f g ps zs n mv=(Z,1):=by unfold dres;rw[h1,h2,hZ];rfl
      simp only[e,Bool.and_false,Bool.not_false,cond_true,d1,Zc,hs0,Option.isSome_some,Option.getD_some,implies_true,and_self,if_true,decide_true]
     | true=>
      cases h3:mayF f n mv with
      | false=>
       have e:dres f g ps zs n mv=(Z,8):=by unfold dres;rw[h1,h2,h3,hZ];rfl
       simp only[e,Bool.and_self,Bool.not_true,Bool.not_false,cond_false,cond_true,d8,Zc,hs0,Option.isSome_some,Option.getD_some,implies_true,and_self,if_true,decide_true]
      | true=>
       have e:dres f g ps zs n mv=(driftT f ps zs n mv,0):=by unfold dres;rw[h1,h2,h3];rfl
       rw[e]at hdl
       have h1':=h1
       simp only[Bool.and_eq_true,decide_eq_true_eq]at h1'
       obtain⟨r1,r2,r3⟩:=h1'
       subst r3
       have hdr:=rsdrift_ok (N:=M+200) (by omega) hp hl r1 r2 h3 f
       have hmk:=rmake_ok (M:=M) hM f f (ps:=ps) (zs:=zs) n st sk k s (dc:=dc) p q step hm hf hoe hdl (by rw[hk];rfl) (fun _=>hdr)
       have hfin:=fin (fcT k evs (driftT f ps zs n mv) p q) (tab_len _ _)
       simp only[e,Bool.and_self,Bool.not_true,Bool.not_false,cond_false,cond_true,d0,hmk,hfin,Option.isSome_some,Option.getD_some,implies_true,and_self,if_true,decide_true]
theorem law_cellxMakes(N:Nat)(hN:1099511627776<=N) (y0:Sh.den (.pair (.int .i64) (.arrS 3 (.int .u8)))) (w0:Sh.wf (.pair (.int .i64) (.arrS 3 (.int .u8))) y0) (y1:Sh.den (.pair (.int .i64) (.arrS 3 (.int .i64)))) (w1:Sh.wf (.pair (.int .i64) (.arrS 3 (.int .i64))) y1) (y2:Sh.den (.pair (.pair (.int .i64) (.pair .bool (.pair (.int .i64) (.pair (.int .i64) (.pair (.arr 2 .i64) (.pair (.arr 6 .i64) (.arrS 6 (.pair .bool (.pair (.int .i64) (.int .i64)))))))))) (.pair (.int .i64) (.pair (.int .i64) (.pair (.int .i64) (.int .i64)))))) (w2:Sh.wf (.pair (.pair (.int .i64) (.pair .bool (.pair (.int .i64) (.pair (.int .i64) (.pair (.arr 2 .i64) (.pair (.arr 6 .i64) (.arrS 6 (.pair .bool (.pair (.int .i64) (.int .i64)))))))))) (.pair (.int .i64) (.pair (.int .i64) (.pair (.int .i64) (.int .i64))))) y2):law38_CellxMakes N (y0.1) (y0.2) (y1.1) (y1.2) (y2.1.1) (y2.1.2.1) (y2.1.2.2.1) (y2.1.2.2.2.1) (y2.1.2.2.2.2.1) (y2.1.2.2.2.2.2.1) (y2.1.2.2.2.2.2.2) (y2.2.1) (y2.2.2.1) (y2.2.2.2.1) (y2.2.2.2.2)=some true:=by
 obtain⟨f,ps⟩:=y0
 obtain⟨_,_,hps⟩:=w0
 obtain⟨⟨st,sk,k,s,mv,dc,evs⟩,n,p,q,step⟩:=y2
 obtain⟨⟨_,_,_,_,⟨hm,_⟩,⟨hd,_⟩,_⟩,_⟩:=w2
 obtain⟨M,rfl⟩:∃M,N=M+200:=⟨N-200,by omega⟩
 exact cmakes_law (M:=M) (by omega) f y1.1 st sk k s n p q step hm hd (fun k _=>bytes_of3 (fun xs hx x hi=>(hps xs hx).2 x hi) k)
end Go.Proofs.YtnpokkaalcfbfaaGreatDoor
