/- What the printed models answer: plain laws. -/
import Derived.Test.YtnpokkaalcfbfaaGreatDoorZD
set_option linter.unusedVariables false
set_option linter.unusedSimpArgs false
namespace Go.Proofs.YtnpokkaalcfbfaaGreatDoor
open Go.X
def amt(c p:Int):Int:=p*(2*c+1)-(if p%2=0 then 1 else 0)
def sv(a q:Int):Int:=
 let c:=clip a (-127) 127
 let p:=clip q 1 31
 if c=0 then 0 else if c<0 then clip (-amt (-c) p) (-2048) 2047 else clip (amt c p) (-2048) 2047
theorem amt_bnd{c p:Int}(h1:0<=c)(h2:c<=127)(h3:1<=p)(h4:p<=31):0<=p*(2*c+1)/\p*(2*c+1)<=31*255/\0<=amt c p/\amt c p<=31*255:=by
 have e1:1*1<=p*(2*c+1):=Int.mul_le_mul h3 (by omega) (by omega) (by omega)
 have e2:p*(2*c+1)<=31*255:=Int.mul_le_mul h4 (by omega) (by omega) (by omega)
 unfold amt
 split<;>omega
def wt(f c:Nat):Int:=weightsL.getD (f*8+c) 0
theorem wt_bnd:∀f,f<8->∀c,c<8 -> -89<=wt f c/\wt f c<=89:=by decide +kernel
theorem mul_bnd{x y a b:Int} (h1 : -a<=x)(h2:x<=a) (h3 : -b<=y)(h4:y<=b) : -(a*b)<=x*y/\x*y<=a*b:=by
 have k1:0<=(a-x)*(b-y):=Int.mul_nonneg (by omega) (by omega)
 have k2:0<=(a+x)*(b+y):=Int.mul_nonneg (by omega) (by omega)
 have k3:0<=(a-x)*(b+y):=Int.mul_nonneg (by omega) (by omega)
 have k4:0<=(a+x)*(b-y):=Int.mul_nonneg (by omega) (by omega)
 simp only[Int.sub_mul,Int.add_mul,Int.mul_sub,Int.mul_add]at k1 k2 k3 k4
 omega
def foreF(X:Nat->Int)(r f:Nat):Int:=psum (fun c=>wt f c*X (8*r+c)) 8
theorem fore_bnd{X:Nat->Int}{B:Int}(hX:∀k,k<64 -> -B<=X k/\X k<=B){r f:Nat}(hr:r<8)(hf:f<8)(n:Nat)(hn:n<=8) : -(8*(89*B))<=psum (fun c=>wt f c*X (8*r+c)) n/\psum (fun c=>wt f c*X (8*r+c)) n<=8*(89*B):=by
 have:=psum_abs (f:=fun c=>wt f c*X (8*r+c)) (n:=n) (b:=89*B) fun c hc=>by
  obtain⟨a1,a2⟩:=wt_bnd f hf c (by omega)
  obtain⟨a3,a4⟩:=hX (8*r+c) (by omega)
  exact mul_bnd a1 a2 a3 a4
 obtain⟨b1,b2⟩:=this
 have hB:0<=B:=by have:=hX 0 (by omega);omega
 have:(n:Int)*(89*B)<=8*(89*B):=Int.mul_le_mul_of_nonneg_right (by omega) (by omega)
 omega
def passF(X:Nat->Int)(k:Nat):Int:=foreF X (k%8) (k/8)
def rnd(x:Int):Int:=(clip x (-1099511627776) 1099511627776+16384)/32768
def dctF(X:Nat->Int)(k:Nat):Int:=clip (rnd (passF (passF fun j=>clip (X j) (-2048) 2047) k)) (-2048) 2047
theorem two_passes(X:Nat->Int){k:Nat}(hk:k<64):passF (passF X) k=psum (fun i=>wt (k%8) (i%8)*wt (k/8) (i/8)*X i) 64:=by
 show psum (fun c=>wt (k/8) c*psum (fun d=>wt ((8*(k%8)+c)/8) d*X (8*((8*(k%8)+c)%8)+d)) 8) 8=_
 have:∀c,c<8->wt (k/8) c*psum (fun d=>wt ((8*(k%8)+c)/8) d*X (8*((8*(k%8)+c)%8)+d)) 8=psum (fun d=>wt (k%8) d*wt (k/8) c*X (8*c+d)) 8:=by
  intro c hc
  have e1:(8*(k%8)+c)/8=k%8:=by omega
  have e2:(8*(k%8)+c)%8=c:=by omega
  rw[e1,e2,psum_mul]
  refine psum_ext fun d hd => ?_
  rw[<-Int.mul_assoc,Int.mul_comm (wt (k/8) c)]
 rw[psum_ext this,psum_rows (fun c d=>wt (k%8) d*wt (k/8) c*X (8*c+d)) 8 (by decide) 8]
 refine psum_ext fun j hj => ?_
 have:8*(j/8)+j%8=j:=by omega
 simp only[this]
def lev(v d:Int):Int:=clip (max v 0/d) 0 127
def lvl(a q:Int)(b:Bool):Int:=
 let c:=clip a (-2048) 2047
 let p:=clip q 1 31
 let l:=lev (max c (-c)-(bif b then 0 else p/2)) (2*p)
 if c<0 then -l else l
theorem lev_bnd(v d:Int):0<=lev v d/\lev v d<=127:=⟨clip_ge (by decide),clip_le (by decide)⟩
theorem sv_bnd(a q:Int) : -2048<=sv a q/\sv a q<=2047:=by
 unfold sv
 simp only[]
 split
 .omega
 split
 .exact⟨clip_ge (by decide),clip_le (by decide)⟩
 .exact⟨clip_ge (by decide),clip_le (by decide)⟩
def levs(L:Nat->Int)(k:Nat):Int:=clip (L k) (-127) 127
theorem whole_clip(N:Nat){a lo hi:Int}(h:lo<=hi):whole_Clip N a lo hi=some (clip a lo hi):=by
 unfold whole_Clip clip
 have h1:decide (hi<lo)=false:=decide_eq_false (by omega)
 rw[h1]
 by_cases h2:a<lo
 .simp[h2]
 .by_cases h3:hi<a<;>simp[h2,h3]
theorem ref01_clip(N:Nat){a lo hi:Int}(h:lo<=hi):ref01_Clip N a lo hi=some (clip a lo hi):=by
 unfold ref01_Clip clip
 have h1:decide (hi<lo)=false:=decide_eq_false (by omega)
 rw[h1]
 by_cases h2:a<lo
 .simp[h2]
 .by_cases h3:hi<a<;>simp[h2,h3]
theorem scale_eq(N:Nat)(a q:Int):scale_Value N a q=some (sv a q):=by
 have c1:=clip_ge (a:=a) (lo := -127) (hi:=127) (by decide)
 have c2:=clip_le (a:=a) (lo := -127) (hi:=127) (by decide)
 have p1:=clip_ge (a:=q) (lo:=1) (hi:=31) (by decide)
 have p2:=clip_le (a:=q) (lo:=1) (hi:=31) (by decide)
 unfold scale_Value sv
 rw[whole_clip N (show(-127:Int)<=127 by decide),whole_clip N (show(1:Int)<=31 by decide)]
 simp only[Option.isSome_some,if_true,Option.getD_some]
 generalize clip a (-127) 127=c at *
 generalize clip q 1 31=p at *
 by_cases hc:c=0
 .simp[hc]
 obtain⟨b1,b2,b3,b4⟩:=amt_bnd (c:=max c (-c)) (p:=p) (by omega) (by omega) p1 p2
 have i1:inK .i64 (-c):=in64 (by omega) (by omega)
 have i2:inK .i64 (2*(max c (-c))):=in64 (by omega) (by omega)
 have i3:inK .i64 (2*(max c (-c))+1):=in64 (by omega) (by omega)
 have i4:inK .i64 (p*(2*(max c (-c))+1)):=in64 (by omega) (by omega)
 have i5:inK .i64 (p*(2*(max c (-c))+1)-1):=in64 (by omega) (by omega)
 have i6:(bif decide (p%2=0)then p*(2*max c (-c)+1)-1 else p*(2*max c (-c)+1))=amt (max c (-c)) p:=by
  unfold amt
  by_cases h:p%2=0<;>simp[h]
 have i7:inK .i64 (-amt (max c (-c)) p):=in64 (by omega) (by omega)
 have p0:0<=p:=by omega
 simp only[i6]
 by_cases hn:c<0
 .have e:max c (-c) = -c:=by omega
  rw[e]at b3 b4 i2 i3 i4 i5 i7⊢
  simp[hc,hn,i1,i2,i3,i4,i5,i7,p0,whole_clip]
 .have e:max c (-c)=c:=by omega
  rw[e]at b3 b4 i2 i3 i4 i5 i7⊢
  simp[hc,hn,i1,i2,i3,i4,i5,i7,p0,whole_clip]
theorem ref12_eq(N:Nat)(a q:Int):ref12_Value N a q=some (sv a q):=by
 have c1:=clip_ge (a:=a) (lo := -127) (hi:=127) (by decide)
 have c2:=clip_le (a:=a) (lo := -127) (hi:=127) (by decide)
 have p1:=clip_ge (a:=q) (lo:=1) (hi:=31) (by decide)
 have p2:=clip_le (a:=q) (lo:=1) (hi:=31) (by decide)
 unfold ref12_Value sv
 rw[ref01_clip N (show(-127:Int)<=127 by decide),ref01_clip N (show(1:Int)<=31 by decide)]
 simp only[Option.isSome_some,if_true,Option.getD_some]
 generalize clip a (-127) 127=c at *
 generalize clip q 1 31=p at *
 have am:∀d:Int,0<d->d<=127->ref12_amount N d p=some (amt d p):=by
  intro d d1 d2
  obtain⟨b1,b2,b3,b4⟩:=amt_bnd (c:=d) (p:=p) (by omega) (by omega) p1 p2
  have i2:inK .i64 (2*d):=in64 (by omega) (by omega)
  have i3:inK .i64 (2*d+1):=in64 (by omega) (by omega)
  have i4:inK .i64 (p*(2*d+1)):=in64 (by omega) (by omega)
  have i5:inK .i64 (p*(2*d+1)-1):=in64 (by omega) (by omega)
  have d0:d≠0:=by omega
  have p0:0<=p:=by omega
  unfold ref12_amount amt
  rcases Int.emod_two_eq p with h|h<;>simp[h,d0,p0,i2,i3,i4,i5]
 by_cases hc:c=0
 .have:inK .i64 (0:Int):=in64 (by decide) (by decide)
  simp[hc,ref12_amount,ref01_clip,clip]
 obtain⟨b1,b2,b3,b4⟩:=amt_bnd (c:=max c (-c)) (p:=p) (by omega) (by omega) p1 p2
 by_cases hn:c<0
 .have e:max c (-c) = -c:=by omega
  rw[e]at b1 b2 b3 b4
  have i1:inK .i64 (-c):=in64 (by omega) (by omega)
  have i7:inK .i64 (-amt (-c) p):=in64 (by omega) (by omega)
  rw[am (-c) (by omega) (by omega)]
  simp[hc,hn,i1,i7,ref01_clip]
 .have e:max c (-c)=c:=by omega
  rw[am c (by omega) (by omega)]
  simp[hc,hn,ref01_clip]
def dcv(dc:Int):Int:=8*clip dc 1 254
theorem sdc_eq(N:Nat)(dc:Int):scale_Dc N dc=some (dcv dc):=by
 have c1:=clip_ge (a:=dc) (lo:=1) (hi:=254) (by decide)
 have c2:=clip_le (a:=dc) (lo:=1) (hi:=254) (by decide)
 have i1:inK .i64 ((8:Int)*clip dc 1 254):=in64 (by omega) (by omega)
 simp only[scale_Dc,whole_clip N (show(1:Int)<=254 by decide),Option.isSome_some,Option.getD_some,i1,and_self,if_true]
 rfl
def svb(b:Bool)(dc:Int)(L:Nat->Int)(q:Int)(k:Nat):Int:=bif b&&k==0 then dcv dc else sv (L k) q
theorem block_eqb{N:Nat}(hN:64<N)(L:Nat->Int)(p:Int)(b:Bool)(dc:Int):scale_Block N (tab 64 L) p b dc=some (tab 64 (svb b dc L p)):=by
 unfold scale_Block
 rw[rep_tab,iter_fill 64 N (fun k=>sv (L k) p) _ ?_ ?_ hN]
 .simp only[Option.bind_some,sdc_eq,Option.isSome_some,implies_true,if_true,Option.getD_some]
  cases b
  .rfl
  .simp only[cond_true,tab_set]
   refine congrArg some (tab_ext fun k hk => ?_)
   unfold svb
   by_cases h:k=0
   .simp[h]
   .have hb:(k==0)=false:=by simpa using h
    simp[h,hb]
 .intro i hi
  have h1:(i:Int)<64:=by omega
  have h2:=inS (i:=i) (by omega)
  simp[scale_Block_b1,h1,h2,hi,tab_get,scale_eq, -List.getD_eq_getElem?_getD]
 .intro xs
  simp[scale_Block_b1]
theorem block_eq{N:Nat}(hN:64<N)(L:Nat->Int)(p q:Int):scale_Block N (tab 64 L) p false q=some (tab 64 fun k=>sv (L k) p):=block_eqb hN L p false q
theorem fore_eq{N:Nat}(hN:64<N){X:Nat->Int}{B:Int}(hB:B<=1000000000000)(hX:∀k,k<64 -> -B<=X k/\X k<=B){r f:Nat}(hr:r<8)(hf:f<8):
  overspill_dct_square_fore N r f (tab 64 X)=some (foreF X r f):=by
 unfold overspill_dct_square_fore
 rw[iter_sum 8 N (fun c=>wt f c*X (8*r+c)) ?_ ?_ (by omega)]
 .rfl
 .intro i hi
  have h1:(i:Int)<8:=by omega
  have h2:=inS (i:=i) (by omega)
  have e1:((8:Int)*r+i).toNat=8*r+i:=by omega
  have h3:8*r+i<64:=by omega
  have h4:(8:Int)*r+i<64:=by omega
  have h5:(0:Int)<=(8:Int)*r+i:=by omega
  have h6:inK .i64 ((8:Int)*r+i):=in64 (by omega) (by omega)
  have h7:inK .i64 ((8:Int)*r):=in64 (by omega) (by omega)
  have h8:(f:Int)<8:=by omega
  have h9:f*8+i<64:=by omega
  obtain⟨b1,b2⟩:=fore_bnd hX hr hf i (by omega)
  obtain⟨b3,b4⟩:=fore_bnd hX hr hf (i+1) (by omega)
  have e2:weightsL.getD (f*8+i) 0=wt f i:=rfl
  obtain⟨a1,a2⟩:=wt_bnd f hf i (by omega)
  obtain⟨a3,a4⟩:=hX (8*r+i) (by omega)
  obtain⟨b5,b6⟩:=mul_bnd a1 a2 a3 a4
  simp only[psum]at b3 b4
  have h10:inK .i64 (wt f i*X (8*r+i)):=in64 (by omega) (by omega)
  have h11:inK .i64 (psum (fun c=>wt f c*X (8*r+c)) i+wt f i*X (8*r+i)):=in64 (by omega) (by omega)
  simp[overspill_dct_square_fore_b1,h1,h2,e1,h3,h4,h5,h6,h7,h8,h9,e2,h10,h11,tab_get, -List.getD_eq_getElem?_getD]
 .intro xs
  simp[overspill_dct_square_fore_b1]
theorem pass_eq{N:Nat}(hN:64<N){X:Nat->Int}{B:Int}(hB:B<=1000000000000)(hX:∀k,k<64 -> -B<=X k/\X k<=B):dct_pass_fore N (tab 64 X)=some (tab 64 (passF X)):=by
 unfold dct_pass_fore
 rw[rep_tab,iter_to (o:=tab 64 (passF X)) (fun i=>((i:Int),tab 64 (fun k=>if k%8<i then passF X k else 0))) 8 ?_ ?_ ?_ (by omega)]
 .simp
 .simp
 .intro i hi
  have h1:(i:Int)<8:=by omega
  have h2:=inS (i:=i) (by omega)
  simp only[dct_pass_fore_b1,h1,decide_true,cond_true]
  rw[iter_to (o:=((8:Int),false,tab 64 (fun k=>if k%8<i+1 then passF X k else 0))) (fun j=>((j:Int),tab 64 (fun k=>if k%8<i\/(k%8=i/\k/8<j)then passF X k else 0))) 8 ?_ ?_ ?_ (by omega)]
  .simp[h2]
  .simp
  .intro j hj
   have g1:(j:Int)<8:=by omega
   have g2:=inS (i:=j) (by omega)
   have e1:((8:Int)*j+i).toNat=8*j+i:=by omega
   have h3:8*j+i<64:=by omega
   have h4:(8:Int)*j+i<64:=by omega
   have h5:(0:Int)<=(8:Int)*j+i:=by omega
   have h6:inK .i64 ((8:Int)*j+i):=in64 (by omega) (by omega)
   have h7:inK .i64 ((8:Int)*j):=in64 (by omega) (by omega)
   simp[dct_pass_fore_b2,g1,g2,fore_eq hN hB hX hi hj,e1,h3,h4,h5,h6,h7,tab_set, -List.getD_eq_getElem?_getD]
   refine tab_ext fun k hk => ?_
   by_cases hk:k=8*j+i
   .have e3:k%8=i:=by omega
    have e4:k/8=j:=by omega
    rw[if_pos hk,if_pos (by omega)]
    unfold passF
    rw[e3,e4]
   .rw[if_neg hk]
    have:(k%8<i\/k%8=i/\k/8<j)↔(k%8<i\/k%8=i/\k/8<j+1):=by omega
    simp only[this]
  .simp[dct_pass_fore_b2]
   refine tab_ext fun k hk => ?_
   have:(k%8<i\/k%8=i/\k/8<8)↔(k%8<i+1):=by omega
   simp only[this]
 .simp[dct_pass_fore_b1]
  refine tab_ext fun k hk => ?_
  rw[if_pos (by omega)]
theorem round_eq(N:Nat)(x:Int):whole_Round N x 15=some (rnd x):=by
 have c1:=clip_ge (a:=x) (lo := -1099511627776) (hi:=1099511627776) (by decide)
 have c2:=clip_le (a:=x) (lo := -1099511627776) (hi:=1099511627776) (by decide)
 have e:clip 15 0 32=15:=rfl
 unfold whole_Round rnd
 rw[whole_clip N (show(-1099511627776:Int)<=1099511627776 by decide),whole_clip N (show(0:Int)<=32 by decide),e]
 generalize clip x (-1099511627776) 1099511627776=c at *
 have i1:inK .i64 (14:Int):=in64 (by decide) (by decide)
 have i2:inK .u64 (14:Int):=inU64 (by decide) (by decide)
 have i3:inK .u64 (15:Int):=inU64 (by decide) (by decide)
 have i4:inK .i64 (16384:Int):=in64 (by decide) (by decide)
 have i5:inK .i64 (c+16384):=in64 (by omega) (by omega)
 simp[i1,i2,i3,i4,i5]
theorem rround_eq{N:Nat}(hN:64<N)(x:Int):ref01_Round N x 15=some (rnd x):=by
 have c1:=clip_ge (a:=x) (lo := -1099511627776) (hi:=1099511627776) (by decide)
 have c2:=clip_le (a:=x) (lo := -1099511627776) (hi:=1099511627776) (by decide)
 have e:clip 15 0 32=15:=rfl
 unfold ref01_Round rnd
 rw[ref01_clip N (show(-1099511627776:Int)<=1099511627776 by decide),ref01_clip N (show(0:Int)<=32 by decide),e]
 generalize clip x (-1099511627776) 1099511627776=c at *
 have hit:iter (ref01_Round_b1 N (some 15)) N (1,0)=some 32768:=by
  refine iter_to (fun i=>((2:Int) ^ i,(i:Int))) 15 rfl ?_ ?_ (by omega)
  .intro i hi
   have h1:(i:Int)<15:=by omega
   have h2:=inS (i:=i) (by omega)
   have h3:inK .i64 ((2:Int)*2 ^ i):=by
    have:∀i,i<15->inK .i64 ((2:Int)*2 ^ i):=by decide
    exact this i hi
   simp[ref01_Round_b1,h1,h2,h3]
   rw[Int.pow_succ,Int.mul_comm]
  .simp[ref01_Round_b1]
 have t1:Int.tdiv 32768 2=16384:=rfl
 have i4:inK .i64 (16384:Int):=in64 (by decide) (by decide)
 have i5:inK .i64 (c+16384):=in64 (by omega) (by omega)
 simp only[Option.isSome_some,if_true,Option.getD_some,show decide ((15:Int)=0)=false from rfl,cond_false]
 rw[hit]
 simp only[t1,Option.bind_some]
 by_cases hn:c+16384<0
 .obtain⟨m,hm⟩:∃m:Nat,c+16384 = -(m:Int):=⟨(-(c+16384)).toNat,by omega⟩
  have d1:Int.tdiv (c+16384) 32768 = -((m:Int)/32768):=by
   rw[hm,Int.neg_tdiv,Int.tdiv_eq_ediv_of_nonneg (by omega)]
  rw[d1]
  have i6:inK .i64 (-((m:Int)/32768)):=in64 (by omega) (by omega)
  have i7:inK .i64 (-((m:Int)/32768)*32768):=in64 (by omega) (by omega)
  have i8:inK .i64 (-((m:Int)/32768)-1):=in64 (by omega) (by omega)
  by_cases hz : -((m:Int)/32768)*32768=c+16384
  .simp[i4,i5,i6,i7,i8,hn,hz]
   omega
  .simp[i4,i5,i6,i7,i8,hn,hz]
   omega
 .have d1:Int.tdiv (c+16384) 32768=(c+16384)/32768:=Int.tdiv_eq_ediv_of_nonneg (by omega)
  rw[d1]
  have i6:inK .i64 ((c+16384)/32768):=in64 (by omega) (by omega)
  simp[i4,i5,i6,hn]
theorem rounded_eq{N:Nat}(hN:64<N){lo hi:Int}(hl:lo<=hi)(X:Nat->Int):dct_rounded N (tab 64 X) lo hi=some (tab 64 fun k=>clip (rnd (X k)) lo hi):=by
 unfold dct_rounded
 rw[rep_tab,iter_fill 64 N (fun k=>clip (rnd (X k)) lo hi) _ ?_ ?_ hN]
 .simp
 .intro i hi
  have h1:(i:Int)<64:=by omega
  have h2:=inS (i:=i) (by omega)
  simp[dct_rounded_b1,h1,h2,hi,tab_get,round_eq,whole_clip N hl, -List.getD_eq_getElem?_getD]
 .intro xs
  simp[dct_rounded_b1]
theorem within_eq{N:Nat}(hN:64<N)(X:Nat->Int):dct_within N (tab 64 X)=some (tab 64 fun k=>clip (X k) (-2048) 2047):=by
 unfold dct_within
 rw[rep_tab,iter_fill 64 N (fun k=>clip (X k) (-2048) 2047) _ ?_ ?_ hN]
 .simp
 .intro i hi
  have h1:(i:Int)<64:=by omega
  have h2:=inS (i:=i) (by omega)
  simp[dct_within_b1,h1,h2,hi,tab_get,whole_clip, -List.getD_eq_getElem?_getD]
 .intro xs
  simp[dct_within_b1]
theorem forward_eq{N:Nat}(hN:64<N)(X:Nat->Int):dct_Forward N (tab 64 X)=some (tab 64 (dctF X)):=by
 have b0:∀k,k<64 -> -2048<=clip (X k) (-2048) 2047/\clip (X k) (-2048) 2047<=2048:=fun k _=>
  ⟨clip_ge (by decide),Int.le_trans (clip_le (by decide)) (by decide)⟩
 have b1:∀k,k<64 -> -(8*(89*2048))<=passF (fun j=>clip (X j) (-2048) 2047) k/\passF (fun j=>clip (X j) (-2048) 2047) k<=8*(89*2048):=fun k hk=>
  fore_bnd b0 (r:=k%8) (f:=k/8) (by omega) (by omega) 8 (by omega)
 unfold dct_Forward
 simp[within_eq hN,pass_eq hN (B:=2048) (by decide) b0,pass_eq hN (B:=8*(89*2048)) (by decide) b1,rounded_eq hN (show(-2048:Int)<=2047 by decide)]
 rfl
theorem weight_eq(N:Nat){f c:Nat}(hf:f<8)(hc:c<8):ref14_Weight N f c=some (wt f c):=by
 have:∀f,f<8->∀c,c<8->ref14_Weight 0 (f:Nat) (c:Nat)=some (wt f c):=by decide +kernel
 exact this f hf c hc
theorem weights_eq{N:Nat}(hN:64<N):ref14_weights N=some (tab 64 fun k=>wt (k/8) (k%8)):=by
 unfold ref14_weights
 rw[rep_tab,iter_to (o:=tab 64 fun k=>wt (k/8) (k%8)) (fun i=>((i:Int),tab 64 (fun k=>if k/8<i then wt (k/8) (k%8)else 0))) 8 ?_ ?_ ?_ (by omega)]
 .simp
 .simp
 .intro i hi
  have h1:(i:Int)<8:=by omega
  have h2:=inS (i:=i) (by omega)
  simp only[ref14_weights_b1,h1,decide_true,cond_true]
  rw[iter_to (o:=((8:Int),(8:Int),false,tab 64 (fun k=>if k/8<i+1 then wt (k/8) (k%8)else 0))) (fun j=>((j:Int),tab 64 (fun k=>if k/8<i\/(k/8=i/\k%8<j)then wt (k/8) (k%8)else 0))) 8 ?_ ?_ ?_ (by omega)]
  .simp[h2]
  .simp
  .intro j hj
   have g1:(j:Int)<8:=by omega
   have g2:=inS (i:=j) (by omega)
   have h3:i*8+j<64:=by omega
   simp[ref14_weights_b2,g1,g2,h1,weight_eq N hi hj,h3,tab_set, -List.getD_eq_getElem?_getD]
   refine tab_ext fun k hk => ?_
   by_cases hk:k=i*8+j
   .have e3:k%8=j:=by omega
    have e4:k/8=i:=by omega
    rw[if_pos hk,if_pos (by omega),e3,e4]
   .rw[if_neg hk]
    have:(k/8<i\/k/8=i/\k%8<j)↔(k/8<i\/k/8=i/\k%8<j+1):=by omega
    simp only[this]
  .simp[ref14_weights_b2]
   refine tab_ext fun k hk => ?_
   have:(k/8<i\/k/8=i/\k%8<8)↔(k/8<i+1):=by omega
   simp only[this]
 .simp[ref14_weights_b1]
  refine tab_ext fun k hk => ?_
  rw[if_pos (by omega)]
theorem rforward_eq{N:Nat}(hN:64<N)(X:Nat->Int):ref14_Forward N (tab 64 X)=some (tab 64 (dctF X)):=by
 unfold ref14_Forward
 rw[weights_eq hN]
 simp only[Option.isSome_some,if_true]
 rw[rep_tab,iter_fill 64 N (dctF X) _ ?_ ?_ hN]
 .simp
 .intro i hi
  have h1:(i:Int)<64:=by omega
  have h2:=inS (i:=i) (by omega)
  simp only[ref14_Forward_b1,h1,decide_true,cond_true]
  let F:Nat->Int:=fun j=>wt (i%8) (j%8)*wt (i/8) (j/8)*clip (X j) (-2048) 2047
  have bF:∀j,j<64->(-(89*89)<=wt (i%8) (j%8)*wt (i/8) (j/8)/\wt (i%8) (j%8)*wt (i/8) (j/8)<=89*89)/\(-(89*89*2048)<=F j/\F j<=89*89*2048):=by
   intro j hj
   obtain⟨a1,a2⟩:=wt_bnd (i%8) (by omega) (j%8) (by omega)
   obtain⟨a3,a4⟩:=wt_bnd (i/8) (by omega) (j/8) (by omega)
   obtain⟨b1,b2⟩:=mul_bnd a1 a2 a3 a4
   exact⟨⟨b1,b2⟩,mul_bnd b1 b2 (clip_ge (by decide)) (Int.le_trans (clip_le (by decide)) (by decide))⟩
  have hit:iter (ref14_Forward_b2 N (tab 64 X) (some (tab 64 fun k=>wt (k/8) (k%8))) ((i:Int),tab 64 fun k=>if k<i then dctF X k else 0)) N (0,0)=some (psum F 64,(64:Int),(64:Int),false):=by
   refine iter_to (fun j=>(psum F j,(j:Int))) 64 rfl ?_ ?_ hN
   .intro j hj
    have g1:(j:Int)<64:=by omega
    have g2:=inS (i:=j) (by omega)
    have k1:(0:Int)<=(i:Int)%8:=by omega
    have k2:(i:Int)%8<8:=by omega
    have k3:(0:Int)<=(j:Int)%8:=by omega
    have k4:(j:Int)%8<8:=by omega
    have k5:(0:Int)<=(i:Int)/8:=by omega
    have k6:(i:Int)/8<8:=by omega
    have k7:(0:Int)<=(j:Int)/8:=by omega
    have k8:(j:Int)/8<8:=by omega
    have k9:((i:Int)%8).toNat*8+((j:Int)%8).toNat=i%8*8+j%8:=by omega
    have k10:((i:Int)/8).toNat*8+((j:Int)/8).toNat=i/8*8+j/8:=by omega
    have k11:i%8*8+j%8<64:=by omega
    have k12:i/8*8+j/8<64:=by omega
    have k13:(i%8*8+j%8)/8=i%8:=by omega
    have k14:(i%8*8+j%8)%8=j%8:=by omega
    have k15:(i/8*8+j/8)/8=i/8:=by omega
    have k16:(i/8*8+j/8)%8=j/8:=by omega
    obtain⟨⟨b1,b2⟩,b3,b4⟩:=bF j hj
    obtain⟨c1,c2⟩:=psum_abs (f:=F) (n:=j) (b:=89*89*2048) fun c hc=>(bF c (by omega)).2
    have c3:(j:Int)*(89*89*2048)<=64*(89*89*2048):=Int.mul_le_mul_of_nonneg_right (by omega) (by omega)
    have m1:inK .i64 (wt (i%8) (j%8)*wt (i/8) (j/8)):=in64 (by omega) (by omega)
    have m2:inK .i64 (wt (i%8) (j%8)*wt (i/8) (j/8)*clip (X j) (-2048) 2047):=in64 (Int.le_trans (by decide) b3) (Int.le_trans b4 (by decide))
    have m3:inK .i64 (psum F j+wt (i%8) (j%8)*wt (i/8) (j/8)*clip (X j) (-2048) 2047):=by
     show inK .i64 (psum F j+F j)
     exact in64 (by omega) (by omega)
    have m4:X j=0->wt (i%8) (j%8)*wt (i/8) (j/8)*clip (X j) (-2048) 2047=0:=by
     intro h;rw[h];exact Int.mul_zero _
    simp only[ref14_Forward_b2,g1,decide_true,cond_true,Int.natCast_nonneg,Int.toNat_natCast,hj,and_self,if_true,tab_get,k1,k2,k3,k4,k5,k6,k7,k8,k9,k10,k11,k12,k13,k14,k15,k16,Option.getD_some,m1,m2,m3,ref01_clip N (show(-2048:Int)<=2047 by decide),Option.isSome_some,implies_true,g2]
    refine congrArg (fun s=>some (Sum.inl s)) (Prod.ext ?_ ?_)
    .show _=psum F j+F j
     by_cases hz:X j=0
     .rw[hz];simp only[ne_eq,not_true,decide_false,cond_false]
      have:F j=0:=m4 hz
      omega
     .simp only[ne_eq,hz,not_false_iff,decide_true,cond_true]
      rfl
    .exact(Int.natCast_succ j).symm
   .simp[ref14_Forward_b2]
  rw[hit]
  have hd:psum F 64=passF (passF fun j=>clip (X j) (-2048) 2047) i:=(two_passes _ hi).symm
  simp[hd,rround_eq hN,ref01_clip,h1,h2,hi,dctF]
 .intro xs
  simp[ref14_Forward_b1]
end Go.Proofs.YtnpokkaalcfbfaaGreatDoor
