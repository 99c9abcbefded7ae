/- What the printed models answer: plain laws. -/
import Derived.Test.YtnpokkaalcfbfaaGreatDoorZF
set_option linter.unusedVariables false
set_option linter.unusedSimpArgs false
namespace Go.Proofs.YtnpokkaalcfbfaaGreatDoor
open Go.X
theorem blkT{i:Nat}(hi:i<6)(F:Nat->Int):((tab 384 F).drop (64*i)).take 64=tab 64 fun k=>F (64*i+k):=by
 rw[blk_tab (tab_len _ _) hi]
 refine tab_ext fun k hk => ?_
 rw[tab_get _ _ (by omega)]
/-- A loop that lays six blocks. -/
theorem iter_lay {body:Int×List Int->Option ((Int×List Int)⊕List Int)} {N:Nat} (hN:6<N) (g:Nat->Nat->Int) (X0:Nat->Int)
  (hs:∀i:Nat,i<6->body ((i:Int),tab 384 fun k=>if k/64<i then g (k/64) (k%64)else X0 k)=some (.inl ((i:Int)+1,layL (tab 384 fun k=>if k/64<i then g (k/64) (k%64)else X0 k) (64*i) (tab 64 (g i)) 64)))
  (he:∀xs,body ((6:Int),xs)=some (.inr xs)):iter body N (0,tab 384 X0)=some (tab 384 fun k=>g (k/64) (k%64)):=by
 refine iter_to (fun i=>((i:Int),tab 384 fun k=>if k/64<i then g (k/64) (k%64)else X0 k)) 6 ?_ ?_ ?_ hN
 .simp
 .intro i hi
  show body ((i:Int),_)=_
  rw[hs i hi]
  refine congrArg (fun z=>some (Sum.inl z)) (Prod.ext (Int.natCast_succ i).symm ?_)
  show layL (tab 384 _) (64*i) (tab 64 _) 64=tab 384 (fun k=>if k/64<i+1 then g (k/64) (k%64)else X0 k)
  rw[lay_tab hi]
  refine tab_ext fun j hj => ?_
  by_cases hji:j/64=i
  .rw[if_pos hji,if_pos (by omega),hji]
  .by_cases hlt:j/64<i
   .rw[if_neg hji,if_pos hlt,if_pos (by omega)]
   .rw[if_neg hji,if_neg hlt,if_neg (by omega)]
 .show body ((6:Int),_)=_
  rw[he]
  refine congrArg (fun z=>some (Sum.inr z)) (tab_ext fun j hj => ?_)
  rw[if_pos (by omega)]
theorem blkS{i:Nat}(hi:i<6)(g:Nat->Nat->Int)(X0:Nat->Int):((tab 384 fun k=>if k/64<i then g (k/64) (k%64)else X0 k).drop (64*i)).take 64=tab 64 fun k=>X0 (64*i+k):=by
 rw[blkT hi]
 refine tab_ext fun k hk => ?_
 rw[if_neg (by omega)]
def LVc(k:Int)(evs:Evs)(i j:Nat):Int:=(lvs (bif intraB k then 1 else 0) (evs.getD i []) (evs.getD i []).length).getD (lp j) 0
def lvT(k:Int)(evs:Evs):List Int:=tab 384 fun j=>LVc k evs (j/64) (j%64)
theorem right_okE{st:Int}{sk:Bool}{k s:Int}{mv dc:List Int}{evs:Evs}(h:rightB true st sk k s mv dc evs=true):∀i,i<6->okE (bif intraB k then 1 else 0) (evs.getD i [])=true:=by
 intro i hi
 unfold rightB at h
 simp only[Bool.and_eq_true]at h
 obtain⟨_,h⟩:=h
 cases sk
 .simp only[cond_false,Bool.and_eq_true]at h
  have:=List.all_eq_true.1 h.2.2.2 i (List.mem_range.2 hi)
  unfold mayB at this
  simp only[Bool.and_eq_true]at this
  exact this.1
 .simp only[cond_true,Bool.and_eq_true,decide_eq_true_eq]at h
  rw[h.2.2.2.2.2 i hi]
  cases intraB k<;>rfl
theorem res_levels{M:Nat}(st:Int)(sk:Bool)(k s:Int){mv dc:List Int}{evs:Evs}(hm:mv.length=2)(hd:dc.length=6)(h:fewP evs):
  residue_Levels (M+200) st sk k s mv dc evs=some (bif rightB true st sk k s mv dc evs then(lvT k evs,0)else(List.replicate 384 0,12)):=by
 cases hr:rightB true st sk k s mv dc evs
 .exact rlevels_no st sk k s hm hd h hr
 .exact rlevels_cell st sk k s hm hd h hr (right_okE hr)
theorem rref_levels{M:Nat}(st:Int)(sk:Bool)(k s:Int)(mv dc:List Int){evs:Evs}(h:fewP evs)(ho:∀i,i<6->okE (bif intraB k then 1 else 0) (evs.getD i [])=true):
  ref29_Levels (M+200) st sk k s mv dc evs=some (lvT k evs):=by
 have hc:ref21_Intra (M+200) k=some (intraB k):=rfl
 have hf:(bif intraB k then(1:Int)else 0)=0\/(bif intraB k then(1:Int)else 0)=1:=by cases intraB k<;>simp
 have hit:=iter_lay (body:=ref29_Levels_b1 (M+200) evs (some (intraB k))) (N:=M+200) (by omega) (fun i=>LVc k evs i) (fun _=>0) (fun i hi=>by
  obtain⟨g1,g2,g3⟩:=in5 hi
  have g4:=inS (i:=i) (by omega)
  have g5:64*i+64<=384:=by omega
  have hl:=h i hi
  simp only[ref29_Levels_b1,g1,g2,decide_true,cond_true,Int.toNat_natCast,Option.getD_some,rlevels_ok (N:=M+200) hf (show(evs.getD i []).length<4294967296 by omega) (by omega),ho i hi,Option.isSome_some,and_self,if_true,g4,g5,hi,rraster_eq]
  rfl) (fun xs=>by simp[ref29_Levels_b1])
 rw[<-rep_tab]at hit
 unfold ref29_Levels
 simp only[hc,Option.isSome_some,if_true,hit,Option.bind_some]
 rfl
theorem level_eq(N:Nat){s v p:Int}(p1:1<=p)(p2:p<=31):coarse_level N s v p=some (if s<0 then -lev v (2*p)else lev v (2*p)):=by
 have l1:=clip_ge (a:=max v 0/(2*p)) (lo:=0) (hi:=127) (by decide)
 have l2:=clip_le (a:=max v 0/(2*p)) (lo:=0) (hi:=127) (by decide)
 have i1:inK .i64 (2*p):=in64 (by omega) (by omega)
 have i2:inK .i64 (-clip (max v 0/(2*p)) 0 127):=in64 (by omega) (by omega)
 have i3:0<=max v 0:=by omega
 have i4:0<2*p:=by omega
 unfold coarse_level lev
 rw[whole_clip N (show(0:Int)<=127 by decide)]
 by_cases hs:s<0<;>simp only[hs,i1,i2,i3,i4,decide_true,decide_false,cond_true,cond_false,Option.isSome_some,Option.getD_some,and_self,if_true,if_false]
theorem intra_eq(N:Nat)(a q:Int):coarse_Intra N a q=some (lvl a q true):=by
 have c1:=clip_ge (a:=a) (lo := -2048) (hi:=2047) (by decide)
 have c2:=clip_le (a:=a) (lo := -2048) (hi:=2047) (by decide)
 have p1:=clip_ge (a:=q) (lo:=1) (hi:=31) (by decide)
 have p2:=clip_le (a:=q) (lo:=1) (hi:=31) (by decide)
 unfold coarse_Intra lvl
 rw[whole_clip N (show(-2048:Int)<=2047 by decide),whole_clip N (show(1:Int)<=31 by decide)]
 simp only[Option.isSome_some,and_self,if_true,Option.getD_some]
 rw[level_eq N p1 p2]
 generalize clip a (-2048) 2047=c at *
 have i1:inK .i64 (-c):=in64 (by omega) (by omega)
 simp[i1]
theorem inter_eq(N:Nat)(a q:Int):coarse_Inter N a q=some (lvl a q false):=by
 have c1:=clip_ge (a:=a) (lo := -2048) (hi:=2047) (by decide)
 have c2:=clip_le (a:=a) (lo := -2048) (hi:=2047) (by decide)
 have p1:=clip_ge (a:=q) (lo:=1) (hi:=31) (by decide)
 have p2:=clip_le (a:=q) (lo:=1) (hi:=31) (by decide)
 unfold coarse_Inter lvl
 rw[whole_clip N (show(-2048:Int)<=2047 by decide),whole_clip N (show(1:Int)<=31 by decide)]
 simp only[Option.isSome_some,and_self,if_true,Option.getD_some]
 rw[level_eq N p1 p2]
 generalize clip a (-2048) 2047=c at *
 generalize clip q 1 31=p at *
 have i1:inK .i64 (-c):=in64 (by omega) (by omega)
 have i2:0<=p:=by omega
 have i3:inK .i64 (max c (-c)-p/2):=in64 (by omega) (by omega)
 simp[i1,i2,i3]
theorem cblock_eq{N:Nat}(hN:64<N)(X:Nat->Int)(q:Int)(b:Bool):coarse_Block N (tab 64 X) q b=some (tab 64 fun k=>bif b&&k==0 then 0 else lvl (X k) q b):=by
 unfold coarse_Block
 cases b
 .simp only[cond_false]
  rw[rep_tab,iter_fill 64 N (fun k=>lvl (X k) q false) _ ?_ ?_ hN]
  .simp
  .intro i hi
   have h1:(i:Int)<64:=by omega
   have h2:=inS (i:=i) (by omega)
   simp[coarse_Block_b2,h1,h2,hi,tab_get,inter_eq, -List.getD_eq_getElem?_getD]
  .intro xs
   simp[coarse_Block_b2]
 .simp only[cond_true]
  rw[rep_tab,iter_fill 64 N (fun k=>lvl (X k) q true) _ ?_ ?_ hN]
  .simp only[Option.bind_some,tab_set]
   refine congrArg some (tab_ext fun k hk => ?_)
   by_cases h:k=0
   .simp[h]
   .have hb:(k==0)=false:=by simpa using h
    simp[h,hb]
  .intro i hi
   have h1:(i:Int)<64:=by omega
   have h2:=inS (i:=i) (by omega)
   simp[coarse_Block_b1,h1,h2,hi,tab_get,intra_eq, -List.getD_eq_getElem?_getD]
  .intro xs
   simp[coarse_Block_b1]
theorem rampl{N:Nat}(hN:256<N){v d:Int}(hd:1<=d)(hd':d<=1000):ref13_amount N v d=some (lev v d):=by
 have l1:=clip_ge (a:=max v 0/d) (lo:=0) (hi:=127) (by decide)
 have l2:=clip_le (a:=max v 0/d) (lo:=0) (hi:=127) (by decide)
 obtain⟨m,hm⟩:∃m:Nat,lev v d=m:=⟨(lev v d).toNat,by unfold lev;omega⟩
 have hm':=hm
 unfold lev at hm'
 rw[hm']at l1 l2
 have key:∀i:Nat,i<=127->((i:Int)<=max v 0/d↔(i:Int)*d<=max v 0):=fun i _=>Int.le_ediv_iff_mul_le (by omega)
 have hmd:clip (max v 0/d) 0 127=m:=hm'
 have h0:0<=max v 0/d:=Int.ediv_nonneg (by omega) (by omega)
 unfold ref13_amount
 have hit:iter (ref13_amount_b1 N v d) N 0=some (m:Int) := ?_
 .rw[hit];simp[hm]
 refine iter_to (fun i=>((i:Nat):Int)) m rfl ?_ ?_ (by omega)
 .intro i hi
  have h1:(i:Int)<127:=by omega
  have h2:=inS (i:=i) (by omega)
  have h3:(i:Int)+1<=max v 0/d:=by
   unfold clip at hmd
   split at hmd
   .omega
   split at hmd<;>omega
  have h4:((i:Int)+1)*d<=max v 0:=by
   have:=(key (i+1) (by omega)).mp (by omega)
   simpa using this
  have h5:1*1<=((i:Int)+1)*d:=Int.mul_le_mul (by omega) hd (by omega) (by omega)
  have h6:((i:Int)+1)*d<=127*1000:=Int.mul_le_mul (by omega) hd' (by omega) (by omega)
  have h7:inK .i64 (((i:Int)+1)*d):=in64 (by omega) (by omega)
  have h8:((i:Int)+1)*d<=v:=by omega
  simp[ref13_amount_b1,h1,h2,h7,h8]
 .by_cases h127:(m:Int)<127
  .have h2:=inS (i:=m) (by omega)
   have h5:1*1<=((m:Int)+1)*d:=Int.mul_le_mul (by omega) hd (by omega) (by omega)
   have h6:((m:Int)+1)*d<=127*1000:=Int.mul_le_mul (by omega) hd' (by omega) (by omega)
   have h7:inK .i64 (((m:Int)+1)*d):=in64 (by omega) (by omega)
   have h3:¬((m:Int)+1<=max v 0/d):=by
    unfold clip at hmd
    split at hmd
    .omega
    split at hmd<;>omega
   have h8:¬((m:Int)+1)*d<=v:=by
    intro h
    refine h3 ?_
    have:=(key (m+1) (by omega)).mpr (by simp only[Int.natCast_succ];omega)
    simpa using this
   simp[ref13_amount_b1,h127,h2,h7,h8]
  .simp[ref13_amount_b1,h127]
theorem rlevel_eq{N:Nat}(hN:256<N)(a q:Int)(b:Bool):ref13_Level N a q b=some (lvl a q b):=by
 have c1:=clip_ge (a:=a) (lo := -2048) (hi:=2047) (by decide)
 have c2:=clip_le (a:=a) (lo := -2048) (hi:=2047) (by decide)
 have p1:=clip_ge (a:=q) (lo:=1) (hi:=31) (by decide)
 have p2:=clip_le (a:=q) (lo:=1) (hi:=31) (by decide)
 unfold ref13_Level lvl
 rw[ref01_clip N (show(-2048:Int)<=2047 by decide),ref01_clip N (show(1:Int)<=31 by decide)]
 simp only[Option.isSome_some,and_self,if_true,Option.getD_some]
 generalize clip a (-2048) 2047=c at *
 generalize clip q 1 31=p at *
 have i1:inK .i64 (-c):=in64 (by omega) (by omega)
 have i2:0<=p:=by omega
 have i3:0<=(bif b then 0 else p/2)/\(bif b then 0 else p/2)<=31:=by cases b<;>simp<;>omega
 generalize (bif b then 0 else p/2)=h at *
 have i4:inK .i64 (-c-h):=in64 (by omega) (by omega)
 have i5:inK .i64 (c-h):=in64 (by omega) (by omega)
 have i6:inK .i64 (2*p):=in64 (by omega) (by omega)
 rw[if_pos i2,rampl hN (v := -c-h) (d:=2*p) (by omega) (by omega),rampl hN (v:=c-h) (d:=2*p) (by omega) (by omega)]
 by_cases hn:c<0
 .have e:max c (-c) = -c:=by omega
  have:=lev_bnd (-c-h) (2*p)
  have i7:inK .i64 (-lev (-c-h) (2*p)):=in64 (by omega) (by omega)
  simp[hn,e,i1,i4,i6,i7]
 .have e:max c (-c)=c:=by omega
  simp[hn,e,i1,i5,i6]
theorem rblock_eq{N:Nat}(hN:256<N)(X:Nat->Int)(q:Int)(b:Bool):ref13_Block N (tab 64 X) q b=some (tab 64 fun k=>bif b&&k==0 then 0 else lvl (X k) q b):=by
 unfold ref13_Block
 rw[rep_tab,iter_fill 64 N (fun k=>bif b&&k==0 then 0 else lvl (X k) q b) _ ?_ ?_ (by omega)]
 .simp
 .intro i hi
  have h1:(i:Int)<64:=by omega
  have h2:=inS (i:=i) (by omega)
  cases b
  .simp[ref13_Block_b1,joinK,h1,h2,hi,tab_get,rlevel_eq hN, -List.getD_eq_getElem?_getD]
  .by_cases hz:i=0
   .subst hz
    have h4:inK .i64 (1:Int):=h2
    simp[ref13_Block_b1,joinK,h4,tab_set]
   .have h3:(0:Int)<i:=by omega
    have h4:0<i:=by omega
    have hb:(i==0)=false:=by simpa using hz
    simp[ref13_Block_b1,joinK,h1,h2,h3,h4,hb,hi,hz,tab_get,rlevel_eq hN, -List.getD_eq_getElem?_getD]
 .intro xs
  simp[ref13_Block_b1]
theorem plain_eq{N:Nat}(hN:64<N)(L R:Nat->Int)(p q:Int)(b:Bool):
  feed_plain N (tab 64 L) (tab 64 R) p q b=some (tab 64 (fun k=>bif b&&k==0 then 0 else levs L k),tab 64 (fun k=>bif b then 0 else R k),clip p 1 31,clip q 1 31,b):=by
 unfold feed_plain
 rw[iter_fill 64 N (levs L) L ?_ ?_ hN]
 .simp only[Option.bind_some,whole_clip N (show(1:Int)<=31 by decide),Option.isSome_some,and_self,if_true,Option.getD_some]
  cases b
  .simp
  .simp only[cond_true,tab_set,rep_tab,Bool.true_and]
   simp only[Option.some.injEq,Prod.mk.injEq,and_true]
   refine tab_ext fun k hk => ?_
   by_cases h:k=0
   .simp[h]
   .have hb:(k==0)=false:=by simpa using h
    simp[h,hb]
 .intro i hi
  have h1:(i:Int)<64:=by omega
  have h2:=inS (i:=i) (by omega)
  simp[feed_plain_b1,h1,h2,hi,tab_get,whole_clip,levs, -List.getD_eq_getElem?_getD]
 .intro xs
  simp[feed_plain_b1]
def zk(b:Bool)(f:Nat->Int)(k:Nat):Int:=bif b&&k==0 then 0 else f k
def isZ(R:Nat->Int):Bool:=decide (tab 64 R=tab 64 fun _=>0)
theorem isZ_iff{R:Nat->Int}:isZ R=true↔∀k,k<64->R k=0:=decide_eq_true_iff.trans tab_dec
theorem isZ_no{R:Nat->Int}{k:Nat}(hk:k<64)(h:R k≠0):isZ R=false:=by
 cases hz:isZ R
 .rfl
 .exact absurd (isZ_iff.mp hz k hk) h
def fb(L R:Nat->Int)(p q:Int)(b:Bool):Nat->Int:=
 if clip p 1 31=clip q 1 31/\isZ (fun k=>bif b then 0 else R k)=true then zk b (levs L)
 else zk b fun k=>lvl (sv (zk b (levs L) k) (clip p 1 31)+dctF (fun k=>bif b then 0 else R k) k) (clip q 1 31) b
theorem dct_bnd(X:Nat->Int)(k:Nat) : -2048<=dctF X k/\dctF X k<=2047:=⟨clip_ge (by decide),clip_le (by decide)⟩
theorem feed_eq{N:Nat}(hN:256<N)(L R:Nat->Int)(p q:Int)(b:Bool):feed_Block N (tab 64 L) (tab 64 R) p q b=some (tab 64 (fb L R p q b)):=by
 have hN':64<N:=by omega
 unfold feed_Block
 rw[plain_eq hN']
 simp only[Option.isSome_some,if_true,Option.getD_some,rep_tab]
 unfold fb
 have e0:decide ((tab 64 fun k=>bif b then 0 else R k)=tab 64 fun _=>0)=isZ (fun k=>bif b then 0 else R k):=rfl
 rw[e0]
 by_cases h:clip p 1 31=clip q 1 31/\isZ (fun k=>bif b then 0 else R k)=true
 .rw[if_pos h,decide_eq_true h.1,h.2]
  rfl
 .rw[if_neg h]
  have hx:(bif decide (clip p 1 31=clip q 1 31)then isZ (fun k=>bif b then 0 else R k)else false)=false:=by
   by_cases h1:clip p 1 31=clip q 1 31
   .rw[decide_eq_true h1]
    cases h2:isZ (fun k=>bif b then 0 else R k)
    .rfl
    .exact absurd ⟨h1,h2⟩ h
   .rw[decide_eq_false h1];rfl
  rw[hx]
  simp only[cond_false,block_eq hN',forward_eq hN',Option.isSome_some,if_true,Option.getD_some]
  rw[iter_fill 64 N (fun k=>sv (zk b (levs L) k) (clip p 1 31)+dctF (fun k=>bif b then 0 else R k) k) _ ?_ ?_ hN']
  .simp only[Option.bind_some,cblock_eq hN',Option.isSome_some,if_true,Option.getD_some]
   rfl
  .intro i hi
   have h1:(i:Int)<64:=by omega
   have h2:=inS (i:=i) (by omega)
   obtain⟨s1,s2⟩:=sv_bnd (zk b (levs L) i) (clip p 1 31)
   obtain⟨d1,d2⟩:=dct_bnd (fun k=>bif b then 0 else R k) i
   have h3:inK .i64 (sv (zk b (levs L) i) (clip p 1 31)+dctF (fun k=>bif b then 0 else R k) i):=in64 (by omega) (by omega)
   have h4:sv (bif b&&i==0 then 0 else levs L i) (clip p 1 31)=sv (zk b (levs L) i) (clip p 1 31):=rfl
   simp[feed_Block_b1,h1,h2,h3,h4,hi,tab_get, -List.getD_eq_getElem?_getD]
  .intro xs
   simp[feed_Block_b1]
theorem nought_eq{N:Nat}(hN:256<N)(R:Nat->Int):ref35_nought N (tab 64 R)=some (isZ R):=by
 have st:∀i,i<64->R i=0->ref35_nought_b1 N (tab 64 R) (i:Int)=some (.inl ((i+1:Nat):Int)):=by
  intro i hi hz
  have h1:(i:Int)<64:=by omega
  have h2:=inS (i:=i) (by omega)
  simp[ref35_nought_b1,h1,h2,hi,tab_get,hz, -List.getD_eq_getElem?_getD]
 unfold ref35_nought
 rcases first_or (fun k=>R k≠0) 64 with h|⟨k,h1,h2,h3⟩
 .have h':∀k,k<64->R k=0:=fun k hk=>Classical.not_not.mp (h k hk)
  have hit:iter (ref35_nought_b1 N (tab 64 R)) N 0=some (.inr ()):=iter_to (fun i=>((i:Nat):Int)) 64 rfl (fun i hi=>st i hi (h' i hi)) (by simp[ref35_nought_b1]) (by omega)
  rw[hit,isZ_iff.mpr h'];rfl
 .have hit:iter (ref35_nought_b1 N (tab 64 R)) N 0=some (.inl ()):=by
   refine iter_to (fun i=>((i:Nat):Int)) k rfl (fun i hi=>st i (by omega) (Classical.not_not.mp (h3 i hi))) ?_ (by omega)
   have g1:(k:Int)<64:=by omega
   simp[ref35_nought_b1,g1,h1,tab_get,h2, -List.getD_eq_getElem?_getD]
  rw[hit,isZ_no h1 h2];rfl
theorem dct_zero{X:Nat->Int}(h:∀k,k<64->X k=0){k:Nat}(hk:k<64):dctF X k=0:=by
 unfold dctF
 rw[two_passes _ hk,psum_zero]
 .rfl
 .intro i hi
  show _*clip (X i) (-2048) 2047=0
  rw[h i hi]
  exact Int.mul_zero _
theorem rblk_eq{N:Nat}(hN:256<N)(L R:Nat->Int)(p q:Int)(b:Bool):ref35_Block N (tab 64 L) (tab 64 R) p q b=some (tab 64 (fb L R p q b)):=by
 have hN':64<N:=by omega
 unfold ref35_Block
 rw[ref01_clip N (show(1:Int)<=31 by decide),ref01_clip N (show(1:Int)<=31 by decide),nought_eq hN,rforward_eq hN']
 simp only[Option.isSome_some,if_true,Option.getD_some,implies_true]
 let Z:Nat->Int:=fun k=>bif !b&&!(isZ R)then dctF R k else 0
 have hZ:(bif(bif !b then(!isZ R)else false)then tab 64 (dctF R)else List.replicate 64 0)=tab 64 Z:=by
  rw[rep_tab]
  show _=tab 64 fun k=>bif !b&&!(isZ R)then dctF R k else 0
  cases b<;>cases isZ R<;>rfl
 rw[hZ]
 have hZ':∀k,k<64->Z k=dctF (fun k=>bif b then 0 else R k) k:=by
  intro k hk
  show(bif !b&&!(isZ R)then dctF R k else 0)=_
  cases b
  .cases h:isZ R
   .rfl
   .exact(dct_zero (isZ_iff.mp h) hk).symm
  .exact(dct_zero (fun _ _=>rfl) hk).symm
 have zb:∀k,k<64 -> -2048<=Z k/\Z k<=2047:=fun k hk=>by rw[hZ' k hk];exact dct_bnd _ k
 have hit:iter (ref35_Block_b1 N (some (clip p 1 31)) (tab 64 Z)) N (0,tab 64 L,List.replicate 64 0)=some (tab 64 (levs L),tab 64 fun k=>sv (levs L k) (clip p 1 31)+Z k):=by
  rw[rep_tab]
  refine iter_to (fun i=>((i:Int),tab 64 (fun k=>if k<i then levs L k else L k),tab 64 (fun k=>if k<i then sv (levs L k) (clip p 1 31)+Z k else 0))) 64 ?_ ?_ ?_ hN'
  .simp
  .intro i hi
   have h1:(i:Int)<64:=by omega
   have h2:=inS (i:=i) (by omega)
   obtain⟨s1,s2⟩:=sv_bnd (levs L i) (clip p 1 31)
   obtain⟨d1,d2⟩:=zb i hi
   have h3:inK .i64 (sv (levs L i) (clip p 1 31)+Z i):=in64 (by omega) (by omega)
   have h4:clip (L i) (-127) 127=levs L i:=rfl
   simp[ref35_Block_b1,h1,h2,hi,tab_get,tab_set,ref01_clip,ref12_eq,h3,h4, -List.getD_eq_getElem?_getD]
   constructor<;>refine tab_ext fun k hk => ?_<;>by_cases e:k=i
   .rw[if_pos e,if_pos (by omega),e]
   .rw[if_neg e];exact ite_congr (propext ⟨fun h=>by omega,fun h=>by omega⟩) (fun _=>rfl) (fun _=>rfl)
   .simp[e]
   .simp only[if_neg e];exact ite_congr (propext ⟨fun h=>by omega,fun h=>by omega⟩) (fun _=>rfl) (fun _=>rfl)
  .simp only[ref35_Block_b1]
   refine congrArg (fun s=>some (Sum.inr s)) (Prod.ext ?_ ?_)
   .exact tab_ext fun k hk=>if_pos hk
   .exact tab_ext fun k hk=>if_pos hk
 rw[hit]
 have g:((decide (clip p 1 31=clip q 1 31)&&!b)=true->(True)):=fun _=>trivial
 have hz:(bif decide (clip p 1 31=clip q 1 31)then bif b then true else isZ R else false)=decide (clip p 1 31=clip q 1 31/\isZ (fun k=>bif b then 0 else R k)=true):=by
  by_cases h1:clip p 1 31=clip q 1 31
  .cases b
   .rw[decide_eq_true h1]
    cases h2:isZ R
    .exact(decide_eq_false fun h=>by rw[show(fun k=>bif false then 0 else R k)=R from rfl,h2]at h;cases h.2).symm
    .exact(decide_eq_true ⟨h1,h2⟩).symm
   .rw[decide_eq_true h1]
    exact(decide_eq_true ⟨h1,isZ_iff.mpr fun _ _=>rfl⟩).symm
  .rw[decide_eq_false h1,decide_eq_false fun h=>h1 h.1];rfl
 have hc:(decide (clip p 1 31=clip q 1 31)=true->(b=false->((decide (clip p 1 31=clip q 1 31))&&(!b))=true)):=by
  intro h1 h2
  rw[h1,h2];rfl
 simp only[Option.bind_some,Option.isSome_some,if_true,Option.getD_some,implies_true,true_and,hz,rblock_eq hN]
 rw[if_pos hc]
 unfold fb
 by_cases h:clip p 1 31=clip q 1 31/\isZ (fun k=>bif b then 0 else R k)=true
 .rw[decide_eq_true h,if_pos h]
  cases b
  .rfl
  .simp only[cond_true,tab_set]
   refine congrArg some (tab_ext fun k hk => ?_)
   unfold zk
   by_cases e:k=0
   .simp[e]
   .have hb:(k==0)=false:=by simpa using e
    simp[e,hb]
 .rw[decide_eq_false h,if_neg h]
  simp only[cond_false]
  refine congrArg some (tab_ext fun k hk => ?_)
  unfold zk
  rw[hZ' k hk]
  cases hb:(b&&k==0)
  .simp only[hb,cond_false]
  .rfl
def fcT(k:Int)(evs:Evs)(xs:List Int)(p q:Int):List Int:=tab 384 fun j=>fb (LVc k evs (j/64)) (fun i=>xs.getD (64*(j/64)+i) 0) p q (intraB k) (j%64)
theorem fcell_ok{M:Nat}(hM:1000<=M)(st:Int)(sk:Bool)(k s:Int){mv dc:List Int}{evs:Evs}{xs:List Int}(p q:Int)(hm:mv.length=2)(hd:dc.length=6)(hx:xs.length=384)(h:fewP evs):
  feed_Cell (M+200) st sk k s mv dc evs xs p q=some (bif rightB true st sk k s mv dc evs then(fcT k evs xs p q,0)else(List.replicate 384 0,12)):=by
 unfold feed_Cell
 rw[res_levels st sk k s hm hd h]
 cases hr:rightB true st sk k s mv dc evs
 .rfl
 .have hit:=iter_lay (body:=feed_Cell_b1 (M+200) k xs p q) (N:=M+200) (by omega) (fun i=>fb (LVc k evs i) (fun j=>xs.getD (64*i+j) 0) p q (intraB k)) (fun j=>LVc k evs (j/64) (j%64)) (fun i hi=>by
   obtain⟨g1,g2,g3⟩:=in5 hi
   have g4:=inS (i:=i) (by omega)
   have g5:64*i+64<=384:=by omega
   have he:(tab 64 fun j=>LVc k evs ((64*i+j)/64) ((64*i+j)%64))=tab 64 (LVc k evs i):=tab_ext fun j hj=>by
    rw[show(64*i+j)/64=i by omega,show(64*i+j)%64=j by omega]
   have hb:=blkS hi (fun i=>fb (LVc k evs i) (fun j=>xs.getD (64*i+j) 0) p q (intraB k)) (fun j=>LVc k evs (j/64) (j%64))
   simp only[he]at hb
   have hc:(bif decide (k=3)then true else decide (k=4))=intraB k:=rfl
   simp only[feed_Cell_b1,g1,g2,decide_true,cond_true,Int.toNat_natCast,hb,blk_tab hx hi,hc,feed_eq (N:=M+200) (by omega),Option.getD_some,Option.isSome_some,and_self,if_true,g4,g5]) (fun xs=>by simp[feed_Cell_b1])
  simp only[Option.isSome_some,Option.getD_some,if_true,cond_true,ne_eq,not_true,decide_false,cond_false]
  unfold lvT
  rw[hit]
  rfl
theorem rfcell_ok{M:Nat}(hM:1000<=M)(st:Int)(sk:Bool)(k s:Int)(mv dc:List Int){evs:Evs}{xs:List Int}(p q:Int)(hx:xs.length=384)(h:fewP evs)(ho:∀i,i<6->okE (bif intraB k then 1 else 0) (evs.getD i [])=true):
  ref35_Cell (M+200) st sk k s mv dc evs xs p q=some (fcT k evs xs p q):=by
 have hc:ref21_Intra (M+200) k=some (intraB k):=rfl
 have hit:=iter_lay (body:=ref35_Cell_b1 (M+200) k xs p q (some (lvT k evs))) (N:=M+200) (by omega) (fun i=>fb (LVc k evs i) (fun j=>xs.getD (64*i+j) 0) p q (intraB k)) (fun _=>0) (fun i hi=>by
  obtain⟨g1,g2,g3⟩:=in5 hi
  have g4:=inS (i:=i) (by omega)
  have g5:64*i+64<=384:=by omega
  have hb:((lvT k evs).drop (64*i)).take 64=tab 64 (LVc k evs i):=by
   unfold lvT
   rw[blkT hi]
   exact tab_ext fun j hj=>by rw[show(64*i+j)/64=i by omega,show(64*i+j)%64=j by omega]
  simp only[ref35_Cell_b1,g1,g2,decide_true,cond_true,Int.toNat_natCast,hc,Option.getD_some,hb,blk_tab hx hi,rblk_eq (N:=M+200) (by omega),Option.isSome_some,and_self,if_true,g4,g5]) (fun xs=>by simp[ref35_Cell_b1])
 rw[<-rep_tab]at hit
 unfold ref35_Cell
 simp only[rref_levels st sk k s mv dc h ho,Option.isSome_some,if_true,hit,Option.bind_some]
 rfl
abbrev CellR:=Int×Bool×Int×Int×List Int×List Int×Evs×Int
def Zc(e:Int):CellR:=(0,false,0,0,List.replicate 2 0,List.replicate 6 0,List.replicate 6 [],e)
def bL(xs:List Int)(b:Nat)(k:Nat):Int:=xs.getD (64*b+pl k) 0
def fB(k:Int):Int:=bif intraB k then 1 else 0
theorem fB_or(k:Int):fB k=0\/fB k=1:=by unfold fB;cases intraB k<;>simp
def bok(k:Int)(xs:List Int)(b:Nat):Bool:=decide ((evts (fB k) (bL xs b)).2=0)&&!(intraB k&&decide (xs.getD (64*b) 0≠0))
def pevs(k:Int)(xs:List Int):Evs:=tab 6 fun b=>(evts (fB k) (bL xs b)).1
def kindR(k step:Int):Int:=(bif intraB k then 3 else 0)+if step≠0 then 1 else 0
def skipB(k step:Int)(xs mv:List Int):Bool:=!intraB k&&(decide (xs=List.replicate 384 0)&&(decide (mv=[0,0])&&decide (step=0)))
def okR(k:Int)(mv dc xs:List Int)(step:Int):CellR:=
 bif !stB step&&decide (step≠0)then Zc 9 else
 bif(List.range 6).all (bok k xs)then bif skipB k step xs mv then(0,true,0,0,List.replicate 2 0,List.replicate 6 0,List.replicate 6 [],0)else(0,false,kindR k step,step,mv,dc,pevs k xs,0)else Zc 7
theorem fB1(k:Int)(inst:Decidable (fB k=1)):@decide (fB k=1) inst=intraB k:=by
 rw[Bool.eq_iff_iff,decide_eq_true_eq];unfold fB;cases intraB k<;>simp
theorem fB0(k:Int)(inst:Decidable (fB k=0)):@decide (fB k=0) inst=!intraB k:=by
 rw[Bool.eq_iff_iff,decide_eq_true_eq];unfold fB;cases intraB k<;>simp
theorem fBd(k:Int):(bif intraB k then(1:Int)else 0)=fB k:=by cases h:intraB k<;>simp[fB,h]
theorem head_blk{xs:List Int}(hx:xs.length=384){b:Nat}(hb:b<6):((xs.drop (64*b)).take 64).getD 0 0=xs.getD (64*b) 0:=by
 rw[blk_tab hx hb,tab_get _ _ (by omega)];rfl
theorem blk_L{xs:List Int}(hx:xs.length=384){b:Nat}(hb:b<6):(tab 64 fun k=>((xs.drop (64*b)).take 64).getD (pl k) 0)=tab 64 (bL xs b):=by
 refine tab_ext fun k hk => ?_
 rw[blk_tab hx hb,tab_get _ _ (pl_lt hk)];rfl
theorem evts_blk(f:Int)(xs:List Int)(b:Nat):evts f (fun k=>(tab 64 (bL xs b)).getD k 0)=evts f (bL xs b):=evts_ext fun k hk=>tab_get _ _ hk
theorem pevents_ok{N:Nat}(hN:100<N)(st:Int)(sk:Bool)(k s:Int)(mv dc:List Int)(evs:Evs){xs:List Int}(hx:xs.length=384):
  ((List.range 6).all (bok k xs)=true->pattern_events N st sk k s mv dc evs xs=some (pevs k xs,true))/\((List.range 6).all (bok k xs)=false->∃o,pattern_events N st sk k s mv dc evs xs=some (o,false)):=by
 have hc:pattern_intra N st sk k s mv dc evs=some (intraB k):=rfl
 have step:∀i:Nat,i<6->pattern_events_b1 N xs (some (intraB k)) ((i:Int),tab 6 fun b=>if b<i then(evts (fB k) (bL xs b)).1 else[])=some (bif bok k xs i then .inl ((i:Int)+1,(tab 6 fun b=>if b<i then(evts (fB k) (bL xs b)).1 else[]).set i (evts (fB k) (bL xs i)).1)else .inr (.inl (tab 6 fun b=>if b<i then(evts (fB k) (bL xs b)).1 else[]))):=fun i hi=>by
  obtain⟨g1,g2,g3⟩:=in5 hi
  have g4:=inS (i:=i) (by omega)
  have g5:64*i+64<=384:=by omega
  have t1:∀(a b:Bool),(!a)=true->(b=true->((!a)&&b)=true):=by intro a b;cases a<;>cases b<;>simp
  simp only[pattern_events_b1,g1,g2,decide_true,cond_true,Int.toNat_natCast,Option.getD_some,fBd,told_eq (N:=N) (by omega),blk_L hx hi,events_eq (N:=N) (by omega) (fB_or k),evts_blk,head_blk hx hi,Option.isSome_some,and_self,if_true,g5,fB1,hi,g4]
  rw[if_pos (t1 _ _)]
  unfold bok
  rcases evts_err (fB k) (bL xs i)with h|h
  .rw[h]
   cases intraB k<;>by_cases h0:xs.getD (64*i) 0=0<;>simp[h0, -List.getD_eq_getElem?_getD]
  .rw[h]
   simp
 obtain⟨hy,hn⟩:=iter_try (body:=pattern_events_b1 N xs (some (intraB k))) (fun i=>((i:Int),tab 6 fun b=>if b<i then(evts (fB k) (bL xs b)).1 else[])) 6 N (bok k xs) (fun i=>.inl (tab 6 fun b=>if b<i then(evts (fB k) (bL xs b)).1 else[])) (.inr (pevs k xs)) (s0:=(0,List.replicate 6 [])) (by rw[rep_tab];simp)
  (fun i hi hP=>by
   show pattern_events_b1 N xs (some (intraB k)) ((i:Int),_)=_
   rw[step i hi,hP]
   refine congrArg (fun z=>some (Sum.inl z)) (Prod.ext (Int.natCast_succ i).symm ?_)
   show(tab 6 _).set i _=tab 6 (fun b=>if b<i+1 then(evts (fB k) (bL xs b)).1 else[])
   rw[tab_set]
   refine tab_ext fun j hj => ?_
   by_cases h1:j=i
   .rw[if_pos h1,if_pos (by omega),h1]
   .by_cases h2:j<i
    .rw[if_neg h1,if_pos h2,if_pos (by omega)]
    .rw[if_neg h1,if_neg h2,if_neg (by omega)])
  (fun i hi hP=>by
   show pattern_events_b1 N xs (some (intraB k)) ((i:Int),_)=_
   rw[step i hi,hP];rfl)
  (by
   simp only[pattern_events_b1]
   refine congrArg (fun z=>some (Sum.inr (Sum.inr z))) (tab_ext fun j hj => ?_)
   rw[if_pos hj]) (by omega)
 refine⟨fun h => ?_,fun h => ?_⟩
 .unfold pattern_events
  simp only[hc,Option.isSome_some,if_true,hy h,Option.bind_some,Sum.elim_inr]
 .obtain⟨j,_,_,hj⟩:=hn h
  refine⟨tab 6 fun b=>if b<j then(evts (fB k) (bL xs b)).1 else[],?_⟩
  unfold pattern_events
  simp only[hc,Option.isSome_some,if_true,hj,Option.bind_some,Sum.elim_inl]
theorem pkind_ok(N:Nat)(st:Int)(sk:Bool)(k s:Int)(mv dc:List Int)(evs:Evs)(step:Int):pattern_kind N st sk k s mv dc evs step=some (kindR k step):=by
 unfold pattern_kind kindR
 have hc:pattern_intra N st sk k s mv dc evs=some (intraB k):=rfl
 simp only[hc,Option.isSome_some,if_true,Option.getD_some]
 by_cases h:step=0<;>cases intraB k<;>simp[h]
theorem pcell_ok{M:Nat}(st:Int)(sk:Bool)(k s:Int){mv dc:List Int}{evs:Evs}{xs:List Int}(step:Int)(hm:mv.length=2)(hd:dc.length=6)(h:fewP evs)(hx:xs.length=384):
  pattern_Cell (M+200) st sk k s mv dc evs xs step=some (bif rightB true st sk k s mv dc evs then okR k mv dc xs step else Zc 12):=by
 unfold pattern_Cell
 rw[right_ok true st sk k s hm hd h]
 cases rightB true st sk k s mv dc evs
 .rfl
 .obtain⟨r,hr⟩:=steps_eq (M+200) step
  have hc:pattern_intra (M+200) st sk k s mv dc evs=some (intraB k):=rfl
  have he:pattern_Empty (M+200) xs=some (decide (xs=List.replicate 384 0)):=rfl
  obtain⟨hy,hn⟩:=pevents_ok (N:=M+200) (by omega) st sk k s mv dc evs hx
  unfold okR
  simp only[Option.isSome_some,Option.getD_some,if_true,Bool.not_true,cond_false,cond_true,hr,hc,he,pkind_ok]
  have k1:(bif(!stB step)then decide (step≠0)else false)=(!stB step&&decide (step≠0)):=by cases stB step<;>simp
  rw[k1]
  cases (!stB step&&decide (step≠0))
  .simp only[cond_false]
   cases hall:(List.range 6).all (bok k xs)with
   | false=>obtain⟨o,ho⟩:=hn hall;rw[ho];rfl
   | true=>
    rw[hy hall]
    simp only[Option.isSome_some,Option.getD_some,if_true,Bool.not_true,cond_false,cond_true,implies_true,and_self]
    have k2:(bif(bif(bif(!intraB k)then decide (xs=List.replicate 384 0)else false)then decide (mv=List.replicate 2 0)else false)then decide (step=0)else false)=skipB k step xs mv:=by
     unfold skipB
     rw[show(List.replicate 2 (0:Int))=[0,0] from rfl]
     cases intraB k<;>cases decide (xs=List.replicate 384 0)<;>cases decide (mv=[0,0])<;>rfl
    rw[k2]
    cases skipB k step xs mv<;>rfl
  .rfl
theorem rempty_ok{N:Nat}(hN:100<N){xs:List Int}(hx:xs.length=384):ref36_Empty N xs=some (decide (xs=List.replicate 384 0)):=by
 have inner:∀b:Nat,b<6->iter (ref36_Empty_b2 N xs (b:Int)) N 0=some (bif(List.range 64).all (fun i=>decide (xs.getD (64*b+i) 0=0))then .inr (64,64,false)else .inl ()):=fun b hb=>by
  obtain⟨g1,g2,g3⟩:=in5 hb
  obtain⟨hy,hn⟩:=iter_try (body:=ref36_Empty_b2 N xs (b:Int)) (fun i=>(i:Int)) 64 N (fun i=>decide (xs.getD (64*b+i) 0=0)) (fun _=>.inl ()) (.inr (64,64,false)) (s0:=0) rfl
   (fun i hi hP=>by
    have h1:(i:Int)<64:=by omega
    have h2:=inS (i:=i) (by omega)
    have h3:b*64+i<384:=by omega
    have h4:xs.getD (b*64+i) 0=0:=by rw[Nat.mul_comm b 64];simpa using hP
    simp only[ref36_Empty_b2,h1,h2,h3,h4,g1,g2,decide_true,cond_true,Int.natCast_nonneg,Int.toNat_natCast,and_self,if_true,ne_eq,not_true,decide_false,cond_false]
    rw[Int.natCast_succ])
   (fun i hi hP=>by
    have h1:(i:Int)<64:=by omega
    have h3:b*64+i<384:=by omega
    have h4:¬xs.getD (b*64+i) 0=0:=by rw[Nat.mul_comm b 64];simpa using hP
    simp only[ref36_Empty_b2,h1,h3,h4,g1,g2,decide_true,cond_true,Int.natCast_nonneg,Int.toNat_natCast,and_self,if_true,ne_eq,not_false_eq_true])
   (by simp[ref36_Empty_b2]) (by omega)
  cases hall:(List.range 64).all (fun i=>decide (xs.getD (64*b+i) 0=0))with
  | true=>exact hy hall
  | false=>obtain⟨_,_,_,h⟩:=hn hall;exact h
 have outer:=iter_all (body:=ref36_Empty_b1 N xs) 6 N (fun b=>(List.range 64).all (fun i=>decide (xs.getD (64*b+i) 0=0))) (fun b hb=>by
  obtain⟨g1,g2,g3⟩:=in5 hb
  have g4:=inS (i:=b) (by omega)
  simp only[ref36_Empty_b1,g2,decide_true,cond_true,inner b hb]
  cases (List.range 64).all (fun i=>decide (xs.getD (64*b+i) 0=0))
  .rfl
  .simp only[cond_true,Option.bind_some,Sum.elim_inr,g4,if_true]) (by simp[ref36_Empty_b1]) (by omega)
 unfold ref36_Empty
 rw[outer,Option.bind_some]
 have hall:(List.range 6).all (fun b=>(List.range 64).all (fun i=>decide (xs.getD (64*b+i) 0=0)))=decide (xs=List.replicate 384 0):=by
  rw[Bool.eq_iff_iff,decide_eq_true_eq]
  simp only[List.all_eq_true,List.mem_range,decide_eq_true_eq]
  constructor
  .intro h
   rw[tab_of 0 hx,rep_tab]
   refine tab_ext fun k hk => ?_
   have:=h (k/64) (by omega) (k%64) (by omega)
   rwa [Nat.div_add_mod]at this
  .intro h b hb i hi
   rw[h,rep_tab,tab_get _ _ (by omega)]
 rw[hall]
 cases decide (xs=List.replicate 384 0)<;>rfl
theorem rcell_ok{M:Nat}(st:Int)(sk:Bool)(k s:Int){mv dc:List Int}{evs:Evs}{xs:List Int}(step:Int)(hm:mv.length=2)(hx:xs.length=384):
  ref36_Cell (M+200) st sk k s mv dc evs xs step=some (okR k mv dc xs step):=by
 have hc:ref21_Intra (M+200) k=some (intraB k):=rfl
 have stp:∀i:Nat,i<6->ref36_Cell_b1 (M+200) xs (some (intraB k)) ((i:Int),tab 6 fun b=>if b<i then(evts (fB k) (bL xs b)).1 else[])=some (bif bok k xs i then .inl ((i:Int)+1,(tab 6 fun b=>if b<i then(evts (fB k) (bL xs b)).1 else[]).set i (evts (fB k) (bL xs i)).1)else .inr (.inl ())):=fun i hi=>by
  obtain⟨g1,g2,g3⟩:=in5 hi
  have g4:=inS (i:=i) (by omega)
  have g5:64*i+64<=384:=by omega
  have g6:64*i<384:=by omega
  simp only[ref36_Cell_b1,g1,g2,decide_true,cond_true,Int.toNat_natCast,Option.getD_some,fBd,rtold_eq,blk_L hx hi,revents_eq (N:=M+200) (by omega) (fB_or k),evts_blk,Option.isSome_some,and_self,if_true,g5,g6,fB1,hi,g4,implies_true]
  unfold bok
  rcases evts_err (fB k) (bL xs i)with h|h
  .rw[h]
   cases intraB k<;>by_cases h0:xs.getD (64*i) 0=0<;>simp[h0, -List.getD_eq_getElem?_getD]
  .rw[h]
   cases intraB k<;>by_cases h0:xs.getD (64*i) 0=0<;>simp[h0, -List.getD_eq_getElem?_getD]
 obtain⟨hy,hn⟩:=iter_try (body:=ref36_Cell_b1 (M+200) xs (some (intraB k))) (fun i=>((i:Int),tab 6 fun b=>if b<i then(evts (fB k) (bL xs b)).1 else[])) 6 (M+200) (bok k xs) (fun i=>.inl ()) (.inr (pevs k xs)) (s0:=(0,List.replicate 6 [])) (by rw[rep_tab];simp)
  (fun i hi hP=>by
   show ref36_Cell_b1 (M+200) xs (some (intraB k)) ((i:Int),_)=_
   rw[stp i hi,hP]
   refine congrArg (fun z=>some (Sum.inl z)) (Prod.ext (Int.natCast_succ i).symm ?_)
   show(tab 6 _).set i _=tab 6 (fun b=>if b<i+1 then(evts (fB k) (bL xs b)).1 else[])
   rw[tab_set]
   refine tab_ext fun j hj => ?_
   by_cases h1:j=i
   .rw[if_pos h1,if_pos (by omega),h1]
   .by_cases h2:j<i
    .rw[if_neg h1,if_pos h2,if_pos (by omega)]
    .rw[if_neg h1,if_neg h2,if_neg (by omega)])
  (fun i hi hP=>by
   show ref36_Cell_b1 (M+200) xs (some (intraB k)) ((i:Int),_)=_
   rw[stp i hi,hP];rfl)
  (by
   simp only[ref36_Cell_b1]
   refine congrArg (fun z=>some (Sum.inr (Sum.inr z))) (tab_ext fun j hj => ?_)
   rw[if_pos hj]) (by omega)
 unfold ref36_Cell okR
 have k1:(bif decide (step < -2)then true else decide ((2:Int)<step))=(!stB step&&decide (step≠0)):=by
  unfold stB
  by_cases h1:step < -2
  .have:step ≠ -1:=by omega
   have:step ≠ -2:=by omega
   have:step≠1:=by omega
   have:step≠2:=by omega
   have:step≠0:=by omega
   simp[*]
  .by_cases h2:2<step
   .have:step ≠ -1:=by omega
    have:step ≠ -2:=by omega
    have:step≠1:=by omega
    have:step≠2:=by omega
    have:step≠0:=by omega
    simp[*]
   .have hs:step = -2\/step = -1\/step=0\/step=1\/step=2:=by omega
    rcases hs with rfl|rfl|rfl|rfl|rfl<;>rfl
 rw[k1]
 cases (!stB step&&decide (step≠0))
 .have i1:decide (step≠0)=true->inK .i64 ((bif intraB k then(3:Int)else 0)+1):=fun _=>by cases intraB k<;>exact in64 (by decide) (by decide)
  simp only[cond_false,hc,Option.isSome_some,if_true,Option.getD_some,fBd]
  rw[if_pos i1]
  cases hall:(List.range 6).all (bok k xs)with
  | false=>
   obtain⟨j,_,_,hj⟩:=hn hall
   rw[hj];rfl
  | true=>
   rw[hy hall]
   simp only[Option.bind_some,Sum.elim_inr,rempty_ok (N:=M+200) (by omega) hx,Option.isSome_some,Option.getD_some,implies_true,if_true,cond_true,fB0]
   obtain⟨m0,m1,rfl⟩:=len2 hm
   have k2:(bif(bif(bif(bif(!intraB k)then decide (step=0)else false)then decide (xs=List.replicate 384 0)else false)then decide (([m0,m1].getD 0 0)=0)else false)then decide (([m0,m1].getD 1 0)=0)else false)=skipB k step xs [m0,m1]:=by
    unfold skipB
    show(bif(bif(bif(bif(!intraB k)then decide (step=0)else false)then decide (xs=List.replicate 384 0)else false)then decide (m0=0)else false)then decide (m1=0)else false)=_
    by_cases h0:m0=0<;>by_cases h1:m1=0<;>by_cases h2:step=0<;>cases intraB k<;>cases decide (xs=List.replicate 384 0)<;>simp[h0,h1,h2]
   rw[k2]
   have k3:(bif decide (step≠0)then(bif intraB k then(3:Int)else 0)+1 else(bif intraB k then(3:Int)else 0))=kindR k step:=by
    unfold kindR
    by_cases h2:step=0<;>simp[h2]
   rw[k3]
   cases skipB k step xs [m0,m1]<;>rfl
 .rfl
end Go.Proofs.YtnpokkaalcfbfaaGreatDoor
