/- What the printed models answer: plain laws. -/
import Derived.Test.YtnpokkaalcfbfaaGreatDoorZH
set_option linter.unusedVariables false
set_option linter.unusedSimpArgs false
namespace Go.Proofs.YtnpokkaalcfbfaaGreatDoor
open Go.X
/-! ### formats and planes -/
def fA(f:Int):Int:=if f=1 then 8 else if f=2 then 11 else if f=3 then 22 else if f=4 then 44 else if f=5 then 88 else if f=6 then 2 else 0
def fD(f:Int):Int:=if f=1 then 6 else if f=2 then 9 else if f=3 then 18 else if f=4 then 36 else if f=5 then 72 else if f=6 then 2 else 0
theorem fmt_or(f:Int):(fA f=0/\fD f=0)\/(2<=fA f/\fA f<=88/\2<=fD f/\fD f<=72):=by
 unfold fA fD
 split
 .right;omega
 split
 .right;omega
 split
 .right;omega
 split
 .right;omega
 split
 .right;omega
 split
 .right;omega
 .left;exact⟨rfl,rfl⟩
def wid(f:Int)(k:Nat):Int:=if k=0 then 16*fA f else 8*fA f
def hig(f:Int)(k:Nat):Int:=if k=0 then 16*fD f else 8*fD f
theorem mul_le2{a b c d:Int}(h0:0<=a)(h1:a<=c)(h2:0<=b)(h3:b<=d):0<=a*b/\a*b<=c*d:=⟨Int.mul_nonneg h0 h2,Int.mul_le_mul h1 h3 h2 (by omega)⟩
theorem wh_bnd(f:Int)(k:Nat):0<=wid f k/\wid f k<=1408/\0<=hig f k/\hig f k<=1152/\0<=wid f k*hig f k/\wid f k*hig f k<=1408*1152:=by
 have h:0<=wid f k/\wid f k<=1408/\0<=hig f k/\hig f k<=1152:=by
  unfold wid hig
  rcases fmt_or f with⟨h1,h2⟩|⟨h1,h2,h3,h4⟩
  .rw[h1,h2];split<;>omega
  .split<;>omega
 obtain⟨h1,h2,h3,h4⟩:=h
 exact⟨h1,h2,h3,h4,mul_le2 h1 h2 h3 h4⟩
theorem ad_bnd(f:Int):0<=fA f*fD f/\fA f*fD f<=88*72:=by
 rcases fmt_or f with⟨h1,h2⟩|⟨h1,h2,h3,h4⟩
 .rw[h1,h2];decide
 .exact mul_le2 (by omega) h2 (by omega) h4
def rightF(f:Int)(ps:List (List Int)):Bool:=decide (fA f≠0)&&(List.range 3).all fun k=>decide (((ps.getD k []).length:Int)=wid f k*hig f k)
theorem rightF_len{f:Int}{ps:List (List Int)}(h:rightF f ps=true):fA f≠0/\∀k,k<3->((ps.getD k []).length:Int)=wid f k*hig f k:=by
 unfold rightF at h
 simp only[Bool.and_eq_true,decide_eq_true_eq,List.all_eq_true,List.mem_range]at h
 exact h
theorem in2{i:Nat}(h:i<3):(0:Int)<=(i:Int)/\(i:Int)<3/\((i:Int)).toNat<3:=⟨by omega,by omega,by omega⟩
def byteP(l:List Int):Prop:=∀i,0<=l.getD i 0/\l.getD i 0<=255
theorem byteP_of{l:List Int}(h:∀x,x∈l->inK .u8 x):byteP l:=fun i=>by
 rw[List.getD_eq_getElem?_getD]
 cases hi:l[i]? with
 | none=>decide
 | some x=>
  have:=h x (List.mem_of_getElem? hi)
  unfold inK at this
  exact this
/-- n is the cell in column n % A of line n / A. -/
theorem cell_at{n A D:Int}(hA:0<A)(h0:0<=n)(h1:n<A*D):0<=n%A/\n%A<A/\0<=n/A/\n/A<D:=
 ⟨Int.emod_nonneg n (by omega),Int.emod_lt_of_pos n hA,Int.ediv_nonneg h0 (by omega),Int.ediv_lt_of_lt_mul hA (by rw[Int.mul_comm];exact h1)⟩
theorem idx_lt{x y w h:Int}(x0:0<=x)(x1:x<w)(y0:0<=y)(y1:y<h):0<=y*w+x/\y*w+x<w*h:=by
 have h1:0<=y*w:=Int.mul_nonneg y0 (by omega)
 have h2:(y+1)*w<=h*w:=Int.mul_le_mul_of_nonneg_right (by omega) (by omega)
 rw[Int.add_mul,Int.one_mul,Int.mul_comm h w]at h2
 omega
/-- Does a way of so many halves lie inside? -/
def inX(v a:Int):Prop:=0<=v/\(v+1)/2+16<=16*a
instance (v a:Int):Decidable (inX v a):=by unfold inX;infer_instance
def hasF(f n:Int):Bool:=decide (0<=n)&&decide (n<fA f*fD f)
def mvB(mv:List Int):Bool:=(List.range 2).all fun i=>decide (-32<=mv.getD i 0/\mv.getD i 0<=31)
def mayF(f n:Int)(mv:List Int):Bool:=hasF f n&&(mvB mv&&(decide (inX (32*(n%fA f)+mv.getD 0 0) (fA f))&&decide (inX (32*(n/fA f)+mv.getD 1 0) (fD f))))
def chr(v:Int):Int:=
 let c:=clip v (-64) 64
 let a:=max c (-c)
 let n:=2*(a/4)+(if a%4=0 then 0 else 1)
 if c<0 then -n else n
/-- A sample at halves. -/
def hv(l:List Int)(w x y:Int):Int:=(l.getD ((y/2)*w+x/2).toNat 0+l.getD ((y/2)*w+(x/2+x%2)).toNat 0+l.getD ((y/2+y%2)*w+x/2).toNat 0+l.getD ((y/2+y%2)*w+(x/2+x%2)).toNat 0+2)/4
def pk(b:Nat):Nat:=b-3
def xb(f n:Int)(mv:List Int)(b:Nat):Int:=if b<4 then 2*(16*(n%fA f)+((b%2:Nat):Int)*8)+mv.getD 0 0 else 16*(n%fA f)+chr (mv.getD 0 0)
def yb(f n:Int)(mv:List Int)(b:Nat):Int:=if b<4 then 2*(16*(n/fA f)+((b/2:Nat):Int)*8)+mv.getD 1 0 else 16*(n/fA f)+chr (mv.getD 1 0)
/-- What is predicted. -/
def prF(f:Int)(ps:List (List Int))(n:Int)(mv:List Int)(b i:Nat):Int:=hv (ps.getD (pk b) []) (wid f (pk b)) (xb f n mv b+2*((i%8:Nat):Int)) (yb f n mv b+2*((i/8:Nat):Int))
theorem chr_bnd{v:Int} (h1 : -32<=v)(h2:v<=31):(0<=v->0<=chr v)/\(v<=0->chr v<=0) /\ -16<=chr v/\chr v<=16:=by
 unfold chr
 rw[clip_id (by omega) (by omega)]
 simp only[]
 by_cases hv:v<0
 .rw[if_pos hv]
  have:max v (-v) = -v:=by omega
  rw[this]
  split<;>omega
 .rw[if_neg hv]
  have:max v (-v)=v:=by omega
  rw[this]
  split<;>omega
/-- All halves of a block lie inside its plane. -/
theorem in_plane{f n:Int}{mv:List Int}(h:mayF f n mv=true){b:Nat}(hb:b<6){i:Nat}(hi:i<64):
  0<=xb f n mv b+2*((i%8:Nat):Int)/\(xb f n mv b+2*((i%8:Nat):Int))/2+(xb f n mv b+2*((i%8:Nat):Int))%2<wid f (pk b)/\0<=yb f n mv b+2*((i/8:Nat):Int)/\(yb f n mv b+2*((i/8:Nat):Int))/2+(yb f n mv b+2*((i/8:Nat):Int))%2<hig f (pk b):=by
 unfold mayF hasF mvB at h
 simp only[Bool.and_eq_true,decide_eq_true_eq,List.all_eq_true,List.mem_range]at h
 obtain⟨⟨h0,h1⟩,h2,h34,h56⟩:=h
 unfold inX at h34 h56
 obtain⟨h3,h4⟩:=h34
 obtain⟨h5,h6⟩:=h56
 obtain⟨m0,m1⟩:=h2 0 (by omega)
 obtain⟨m2,m3⟩:=h2 1 (by omega)
 have hA:0<fA f:=by
  rcases fmt_or f with⟨g1,g2⟩|⟨g1,_⟩
  .rw[g1]at h1;omega
  .omega
 obtain⟨c1,c2,c3,c4⟩:=cell_at hA h0 h1
 obtain⟨k1,k2,k3,k4⟩:=chr_bnd m0 m1
 obtain⟨k5,k6,k7,k8⟩:=chr_bnd m2 m3
 unfold xb yb wid hig pk
 generalize n%fA f=x at *
 generalize n/fA f=y at *
 generalize chr (mv.getD 0 0)=u at *
 generalize chr (mv.getD 1 0)=v at *
 generalize mv.getD 0 0=p at *
 generalize mv.getD 1 0=q at *
 generalize fA f=A at *
 generalize fD f=D at *
 by_cases hb4:b<4
 .rw[if_pos hb4,if_pos hb4,if_pos (by omega),if_pos (by omega)]
  refine⟨?_,?_,?_,?_⟩<;>omega
 .rw[if_neg hb4,if_neg hb4,if_neg (by omega),if_neg (by omega)]
  refine⟨?_,?_,?_,?_⟩<;>omega
theorem hv_bnd{l:List Int}(h:byteP l)(w x y:Int):0<=hv l w x y/\hv l w x y<=255:=by
 unfold hv
 have h1:=h ((y/2)*w+x/2).toNat
 have h2:=h ((y/2)*w+(x/2+x%2)).toNat
 have h3:=h ((y/2+y%2)*w+x/2).toNat
 have h4:=h ((y/2+y%2)*w+(x/2+x%2)).toNat
 omega
theorem size_eq(N:Nat)(f:Int):formats_Size N f=some (16*fA f,16*fD f,decide (fA f≠0)):=by
 unfold formats_Size fA fD
 by_cases h1:f=1
 .simp[h1]
 by_cases h2:f=2
 .simp[h2]
 by_cases h3:f=3
 .simp[h3]
 by_cases h4:f=4
 .simp[h4]
 by_cases h5:f=5
 .simp[h5]
 by_cases h6:f=6
 .simp[h6]
 .simp[h1,h2,h3,h4,h5,h6]
theorem cells_eq(N:Nat)(f:Int):formats_Cells N f=some (fA f,fD f):=by
 unfold formats_Cells
 have h:0<=fA f/\0<=fD f:=by rcases fmt_or f with h|h<;>omega
 have h1:(0:Int)<=16*fA f:=by omega
 have h2:(0:Int)<=16*fD f:=by omega
 have e1:16*fA f/16=fA f:=by omega
 have e2:16*fD f/16=fD f:=by omega
 simp only[size_eq,Option.isSome_some,if_true,Option.getD_some,h1,h2,and_self,e1,e2]
theorem plane_eq(N:Nat)(f:Int){k:Nat}(hk:k<3):formats_Plane N f (k:Int)=some (wid f k,hig f k):=by
 unfold formats_Plane wid hig
 have h:0<=fA f/\0<=fD f:=by rcases fmt_or f with h|h<;>omega
 have h1:(0:Int)<=16*fA f:=by omega
 have h2:(0:Int)<=16*fD f:=by omega
 have e1:16*fA f/2=8*fA f:=by omega
 have e2:16*fD f/2=8*fD f:=by omega
 simp only[size_eq,Option.isSome_some,if_true,Option.getD_some]
 rcases(show k=0\/k=1\/k=2 by omega)with rfl|rfl|rfl
 .rfl
 .simp[h1,h2,e1,e2]
 .simp[h1,h2,e1,e2]
theorem pright_ok{N:Nat}(hN:10<N)(f:Int)(ps:List (List Int)):planes_Right N f ps=some (rightF f ps):=by
 unfold planes_Right
 have hit:iter (planes_Right_b1 N f ps) N (decide (fA f≠0),0)=some (rightF f ps):=by
  refine iter_to (fun i=>(decide (fA f≠0)&&(List.range i).all (fun k=>decide (((ps.getD k []).length:Int)=wid f k*hig f k)),(i:Int))) 3 ?_ ?_ ?_ (by omega)
  .simp
  .intro i hi
   obtain⟨g1,g2,g3⟩:=in2 hi
   have g4:=inS (i:=i) (by omega)
   obtain⟨_,_,_,_,b5,b6⟩:=wh_bnd f i
   have g5:inK .i64 (wid f i*hig f i):=in64 (by omega) (by omega)
   simp only[planes_Right_b1,g1,g2,hi,decide_true,cond_true,Int.toNat_natCast,and_self,if_true,plane_eq N f hi,Option.isSome_some,Option.getD_some,g5,implies_true,g4]
   refine congrArg (fun z=>some (Sum.inl z)) ?_
   rw[List.range_succ,List.all_append,Int.natCast_succ]
   generalize (List.range i).all _=r
   cases decide (fA f≠0)<;>cases r<;>simp
  .simp[planes_Right_b1,rightF]
 simp only[size_eq,Option.isSome_some,if_true,Option.getD_some,hit,Option.bind_some]
theorem chroma_ok(N:Nat)(v:Int):motion_Chroma N v=some (chr v):=by
 have c1:=clip_ge (a:=v) (lo := -64) (hi:=64) (by decide)
 have c2:=clip_le (a:=v) (lo := -64) (hi:=64) (by decide)
 unfold motion_Chroma chr
 rw[whole_clip N (show(-64:Int)<=64 by decide)]
 simp only[Option.isSome_some,if_true,Option.getD_some]
 generalize clip v (-64) 64=c at *
 have i1:inK .i64 (-c):=in64 (by omega) (by omega)
 have fin:∀a:Int,0<=a->a<=64->inK .i64 ((2:Int)*(a/4))/\inK .i64 ((2:Int)*(a/4)+1)/\inK .i64 (-(2*(a/4)))/\inK .i64 (-(2*(a/4)+1)):=fun a h0 h1=>⟨in64 (by omega) (by omega),in64 (by omega) (by omega),in64 (by omega) (by omega),in64 (by omega) (by omega)⟩
 by_cases hc:c<0
 .have e:max c (-c) = -c:=by omega
  obtain⟨i2,i3,i4,i5⟩:=fin (-c) (by omega) (by omega)
  have h0:0 <= -c:=by omega
  by_cases hz:(-c)%4=0<;>(simp[e,i1,i2,i3,i4,i5,h0,hz,hc];omega)
 .have e:max c (-c)=c:=by omega
  obtain⟨i2,i3,i4,i5⟩:=fin c (by omega) (by omega)
  have h0:0<=c:=by omega
  by_cases hz:c%4=0<;>simp[e,i1,i2,i3,i4,i5,h0,hz,hc]
theorem within_ok(N:Nat){v a:Int} (h1 : -1000000<=v)(h2:v<=1000000):motion_within N v 16 (16*a)=some (decide (inX v a)):=by
 unfold motion_within inX
 have i1:inK .i64 (v+1):=in64 (by omega) (by omega)
 have i2:inK .i64 ((v+1)/2+16):=in64 (by omega) (by omega)
 by_cases h:0<=v
 .have:(0:Int)<=v+1:=by omega
  simp[i1,i2,h,this]
 .simp[h]
theorem mv_loop{N:Nat}(hN:10<N)(mv:List Int):iter (motion_May_b1 N mv) N 0=some (bif mvB mv then .inr ()else .inl ()):=
 iter_all 2 N (fun i=>decide (-32<=mv.getD i 0/\mv.getD i 0<=31)) (fun i hi=>by
  have g1:(i:Int)<2:=by omega
  have g4:=inS (i:=i) (by omega)
  simp only[motion_May_b1,g1,hi,decide_true,cond_true,Int.natCast_nonneg,Int.toNat_natCast,and_self,if_true,g4]
  by_cases h1:mv.getD i 0 < -32
  .have:¬(-32<=mv.getD i 0):=by omega
   simp[h1,this, -List.getD_eq_getElem?_getD]
  .by_cases h2:(31:Int)<mv.getD i 0
   .have:¬(mv.getD i 0<=31):=by omega
    simp[h1,h2,this, -List.getD_eq_getElem?_getD]
   .have e1 : -32<=mv.getD i 0:=by omega
    have e2:mv.getD i 0<=31:=by omega
    simp[h1,h2,e1,e2, -List.getD_eq_getElem?_getD]) (by simp[motion_May_b1]) (by omega)
theorem may_okF{N:Nat}(hN:10<N)(f n:Int)(mv:List Int):motion_May N f n mv=some (mayF f n mv):=by
 unfold motion_May mayF hasF
 obtain⟨b1,b2⟩:=ad_bnd f
 have g1:inK .i64 (fA f*fD f):=in64 (by omega) (by omega)
 simp only[cells_eq,size_eq,Option.isSome_some,if_true,Option.getD_some,g1,implies_true]
 rcases fmt_or f with⟨h1,h2⟩|⟨h1,h2,h3,h4⟩
 .rw[h1,h2]
  by_cases hn:0<=n
  .have:¬n<(0:Int)*0:=by omega
   simp[hn,this]
   intro h;omega
  .simp[hn]
 .have e1:fA f≠0:=by omega
  simp only[e1,ne_eq,not_false_eq_true,decide_true,Bool.not_true,cond_false]
  by_cases hn:n<0
  .have:¬ 0<=n:=by omega
   simp[hn,this]
  .have hn0:0<=n:=by omega
   by_cases hn1:fA f*fD f<=n
   .have:¬n<fA f*fD f:=by omega
    simp[hn,hn1,this]
   .have hn2:n<fA f*fD f:=by omega
    obtain⟨c1,c2,c3,c4⟩:=cell_at (by omega) hn0 hn2
    have hp:0<fA f:=by omega
    simp only[hn,hn1,hn0,hn2,hp,decide_false,decide_true,cond_false,mv_loop hN,Bool.true_and,true_and]
    cases hm:mvB mv with
    | false=>rfl
    | true=>
     unfold mvB at hm
     simp only[decide_eq_true_eq,List.all_eq_true,List.mem_range]at hm
     obtain⟨m0,m1⟩:=hm 0 (by omega)
     obtain⟨m2,m3⟩:=hm 1 (by omega)
     have w1:=within_ok N (v:=32*(n%fA f)+mv.getD 0 0) (a:=fA f) (by omega) (by omega)
     have w2:=within_ok N (v:=32*(n/fA f)+mv.getD 1 0) (a:=fD f) (by omega) (by omega)
     have i1:inK .i64 ((32:Int)*(n%fA f)):=in64 (by omega) (by omega)
     have i2:inK .i64 ((32:Int)*(n/fA f)):=in64 (by omega) (by omega)
     have i3:inK .i64 ((32:Int)*(n%fA f)+mv.getD 0 0):=in64 (by omega) (by omega)
     have i4:inK .i64 ((32:Int)*(n/fA f)+mv.getD 1 0):=in64 (by omega) (by omega)
     simp only[cond_true,Option.bind_some,Sum.elim_inr,w1,w2,i1,i2,i3,i4,Option.isSome_some,Option.getD_some,implies_true,and_self,if_true,Bool.true_and]
     cases decide (inX (32*(n%fA f)+mv.getD 0 0) (fA f))<;>rfl
theorem halves1_ok(N:Nat){l:List Int}(hl:byteP l){w a b:Int}(h0:0<=b*w+a)(h1:b*w+a<(l.length:Int))(hb:inK .i64 (b*w))(hlen:l.length<4294967296):motion_halves_1 N a b l w=some (l.getD (b*w+a).toNat 0):=by
 unfold motion_halves_1
 obtain⟨p1,p2⟩:=hl (b*w+a).toNat
 have i1:inK .i64 (b*w+a):=in64 (by omega) (by omega)
 have i2:inK .i64 (l.getD (b*w+a).toNat 0):=in64 (by omega) (by omega)
 simp only[hb,i1,i2,h0,h1,and_self,if_true]
theorem halves_ok(N:Nat){l:List Int}(hl:byteP l){w x y h:Int}(x0:0<=x)(x1:x/2+x%2<w)(y0:0<=y)(y1:y/2+y%2<h)(hlen:(l.length:Int)=w*h)(hlt:l.length<4294967296):
  motion_halves_2 N x y l w=some (hv l w x y):=by
 have hw:0<w:=by omega
 have at_:∀a b:Int,0<=a->a<w->0<=b->b<h->motion_halves_1 N a b l w=some (l.getD (b*w+a).toNat 0):=by
  intro a b a0 a1 b0 b1
  obtain⟨k1,k2⟩:=idx_lt a0 a1 b0 b1
  have k3:0<=b*w:=Int.mul_nonneg b0 (by omega)
  exact halves1_ok N hl k1 (by omega) (in64 (by omega) (by omega)) hlt
 unfold motion_halves_2 hv
 rw[if_pos ⟨x0,y0⟩]
 have i1:inK .i64 (x/2+1)\/x%2=0:=by
  by_cases hx:x%2=0
  .exact .inr hx
  .refine .inl ?_
   have:w<=(l.length:Int):=by
    rw[hlen]
    have:=Int.mul_le_mul_of_nonneg_left (show 1<=h by omega) (show 0<=w by omega)
    omega
   exact in64 (by omega) (by omega)
 have i2:inK .i64 (y/2+1)\/y%2=0:=by
  by_cases hy:y%2=0
  .exact .inr hy
  .refine .inl ?_
   have:h<=(l.length:Int):=by
    rw[hlen]
    have:=Int.mul_le_mul_of_nonneg_right (show 1<=w by omega) (show 0<=h by omega)
    omega
   exact in64 (by omega) (by omega)
 have bnd:=hl
 by_cases hx:x%2=0
 .by_cases hy:y%2=0
  .have a1:=at_ (x/2) (y/2) (by omega) (by omega) (by omega) (by omega)
   obtain⟨p1,p2⟩:=hl ((y/2)*w+x/2).toNat
   simp only[hx,hy,x0,y0,implies_true,and_self,if_true,decide_true,cond_true,a1,Option.isSome_some,Option.getD_some,Int.add_zero]
   generalize l.getD ((y/2)*w+x/2).toNat 0=s at *
   refine congrArg some ?_
   omega
  .have hy1:y%2=1:=by omega
   have a1:=at_ (x/2) (y/2) (by omega) (by omega) (by omega) (by omega)
   have a2:=at_ (x/2) (y/2+1) (by omega) (by omega) (by omega) (by omega)
   have i2:inK .i64 (y/2+1):=by rcases i2 with h|h;exact h;omega
   obtain⟨p1,p2⟩:=hl ((y/2)*w+x/2).toNat
   obtain⟨p3,p4⟩:=hl ((y/2+1)*w+x/2).toNat
   rw[hy1,hx]
   simp only[x0,y0,implies_true,and_self,if_true,decide_true,cond_true,show decide ((1:Int)=0)=false from rfl,cond_false,a1,a2,Option.isSome_some,Option.getD_some,Int.add_zero,i2,true_and]
   generalize l.getD ((y/2)*w+x/2).toNat 0=s at *
   generalize l.getD ((y/2+1)*w+x/2).toNat 0=t at *
   have j1:inK .i64 (s+t):=in64 (by omega) (by omega)
   have j2:inK .i64 (s+t+1):=in64 (by omega) (by omega)
   have j3:0<=s+t+1:=by omega
   rw[if_pos ⟨j1,j2,j3⟩]
   refine congrArg some ?_
   omega
 .have hx1:x%2=1:=by omega
  have i1:inK .i64 (x/2+1):=by rcases i1 with h|h;exact h;omega
  by_cases hy:y%2=0
  .have a1:=at_ (x/2) (y/2) (by omega) (by omega) (by omega) (by omega)
   have a2:=at_ (x/2+1) (y/2) (by omega) (by omega) (by omega) (by omega)
   obtain⟨p1,p2⟩:=hl ((y/2)*w+x/2).toNat
   obtain⟨p3,p4⟩:=hl ((y/2)*w+(x/2+1)).toNat
   rw[hx1,hy]
   simp only[x0,y0,implies_true,and_self,if_true,decide_true,cond_true,show decide ((1:Int)=0)=false from rfl,cond_false,a1,a2,Option.isSome_some,Option.getD_some,Int.add_zero,i1,true_and,Bool.false_eq_true,false_imp_iff]
   generalize l.getD ((y/2)*w+x/2).toNat 0=s at *
   generalize l.getD ((y/2)*w+(x/2+1)).toNat 0=t at *
   have j1:inK .i64 (s+t):=in64 (by omega) (by omega)
   have j2:inK .i64 (s+t+1):=in64 (by omega) (by omega)
   have j3:0<=s+t+1:=by omega
   rw[if_pos ⟨j1,j2,j3⟩]
   refine congrArg some ?_
   omega
  .have hy1:y%2=1:=by omega
   have i2:inK .i64 (y/2+1):=by rcases i2 with h|h;exact h;omega
   have a1:=at_ (x/2) (y/2) (by omega) (by omega) (by omega) (by omega)
   have a2:=at_ (x/2+1) (y/2) (by omega) (by omega) (by omega) (by omega)
   have a3:=at_ (x/2) (y/2+1) (by omega) (by omega) (by omega) (by omega)
   have a4:=at_ (x/2+1) (y/2+1) (by omega) (by omega) (by omega) (by omega)
   obtain⟨p1,p2⟩:=hl ((y/2)*w+x/2).toNat
   obtain⟨p3,p4⟩:=hl ((y/2)*w+(x/2+1)).toNat
   obtain⟨p5,p6⟩:=hl ((y/2+1)*w+x/2).toNat
   obtain⟨p7,p8⟩:=hl ((y/2+1)*w+(x/2+1)).toNat
   rw[hx1,hy1]
   simp only[x0,y0,implies_true,and_self,if_true,decide_true,cond_true,show decide ((1:Int)=0)=false from rfl,cond_false,a1,a2,a3,a4,Option.isSome_some,Option.getD_some,i1,i2,true_and,Bool.false_eq_true,false_imp_iff]
   generalize l.getD ((y/2)*w+x/2).toNat 0=s at *
   generalize l.getD ((y/2)*w+(x/2+1)).toNat 0=t at *
   generalize l.getD ((y/2+1)*w+x/2).toNat 0=u at *
   generalize l.getD ((y/2+1)*w+(x/2+1)).toNat 0=v at *
   have j1:inK .i64 (s+t):=in64 (by omega) (by omega)
   have j2:inK .i64 (s+t+u):=in64 (by omega) (by omega)
   have j3:inK .i64 (s+t+u+v):=in64 (by omega) (by omega)
   have j4:inK .i64 (s+t+u+v+2):=in64 (by omega) (by omega)
   have j5:0<=s+t+u+v+2:=by omega
   rw[if_pos ⟨j1,j2,j3,j4,j5⟩]
theorem laid_ok{N:Nat}(hN:64<N){l:List Int}(hl:byteP l){w h x y:Int} (hx:∀i,i<64->0<=x+2*((i%8:Nat):Int)/\(x+2*((i%8:Nat):Int))/2+(x+2*((i%8:Nat):Int))%2<w/\0<=y+2*((i/8:Nat):Int)/\(y+2*((i/8:Nat):Int))/2+(y+2*((i/8:Nat):Int))%2<h)
  (hlen:(l.length:Int)=w*h) (hlt:l.length<4294967296) (hw:w<=100000) (hh:h<=100000):motion_laid_halves_2 N x y l w=some (tab 64 fun i=>hv l w (x+2*((i%8:Nat):Int)) (y+2*((i/8:Nat):Int))):=by
 unfold motion_laid_halves_2
 rw[rep_tab,iter_fill 64 N (fun i=>hv l w (x+2*((i%8:Nat):Int)) (y+2*((i/8:Nat):Int))) _ ?_ ?_ hN]
 .simp
 .intro i hi
  have h1:(i:Int)<64:=by omega
  have h2:=inS (i:=i) (by omega)
  obtain⟨x0,x1,y0,y1⟩:=hx i hi
  have hh:=halves_ok N hl x0 x1 y0 y1 hlen hlt
  have e1:(i:Int)%8=((i%8:Nat):Int):=by omega
  have e2:(i:Int)/8=((i/8:Nat):Int):=by omega
  have i1:inK .i64 ((2:Int)*((i%8:Nat):Int)):=in64 (by omega) (by omega)
  have i2:inK .i64 ((2:Int)*((i/8:Nat):Int)):=in64 (by omega) (by omega)
  have i3:inK .i64 (x+2*((i%8:Nat):Int)):=in64 (by omega) (by omega)
  have i4:inK .i64 (y+2*((i/8:Nat):Int)):=in64 (by omega) (by omega)
  simp only[motion_laid_halves_2_b1,h1,decide_true,cond_true,e1,e2,hh,Int.natCast_nonneg,i1,i2,i3,i4,Option.isSome_some,Option.getD_some,Int.toNat_natCast,hi,and_self,if_true,h2]
 .intro xs
  simp[motion_laid_halves_2_b1]
/-- Two loops that fill six blocks number by number. -/
theorem iter_fill2{O2:Type} {b1:Int×List Int->Option ((Int×List Int)⊕List Int)} {b2:Int×List Int->Int×List Int->Option ((Int×List Int)⊕O2)} (mk:List Int->O2) (pj:O2->List Int) (hmk:∀xs,pj (mk xs)=xs) {N:Nat} (hN:64<N) (F:Nat->Int)
  (h1:∀b:Nat,b<6->∀xs,b1 ((b:Int),xs)=(iter (b2 ((b:Int),xs)) N (0,xs)).bind fun v=>some (.inl ((b:Int)+1,pj v)))
  (h2:∀b:Nat,b<6->∀i:Nat,i<64->∀s1 xs,b2 ((b:Int),s1) ((i:Int),xs)=some (.inl ((i:Int)+1,xs.set (b*64+i) (F (b*64+i)))))
  (h2e:∀b:Nat,∀s1 xs,b2 ((b:Int),s1) ((64:Int),xs)=some (.inr (mk xs))) (h1e:∀xs,b1 ((6:Int),xs)=some (.inr xs)) (X0:Nat->Int):iter b1 N (0,tab 384 X0)=some (tab 384 F):=by
 refine iter_to (fun b=>((b:Int),tab 384 fun k=>if k<b*64 then F k else X0 k)) 6 ?_ ?_ ?_ (by omega)
 .simp
 .intro b hb
  show b1 ((b:Int),_)=_
  rw[h1 b hb]
  have hit:iter (b2 ((b:Int),tab 384 fun k=>if k<b*64 then F k else X0 k)) N (0,tab 384 fun k=>if k<b*64 then F k else X0 k)=some (mk (tab 384 fun k=>if k<(b+1)*64 then F k else X0 k)):=by
   refine iter_to (fun i=>((i:Int),tab 384 fun k=>if k<b*64+i then F k else X0 k)) 64 ?_ ?_ ?_ hN
   .simp
   .intro i hi
    show b2 _ ((i:Int),_)=_
    rw[h2 b hb i hi]
    refine congrArg (fun z=>some (Sum.inl z)) (Prod.ext (Int.natCast_succ i).symm ?_)
    show(tab 384 _).set (b*64+i) _=tab 384 (fun k=>if k<b*64+(i+1)then F k else X0 k)
    rw[tab_set]
    refine tab_ext fun j hj => ?_
    by_cases hji:j=b*64+i
    .rw[if_pos hji,if_pos (by omega),hji]
    .by_cases hlt:j<b*64+i
     .rw[if_neg hji,if_pos hlt,if_pos (by omega)]
     .rw[if_neg hji,if_neg hlt,if_neg (by omega)]
   .show b2 _ ((64:Int),_)=_
    rw[h2e]
    refine congrArg (fun z=>some (Sum.inr (mk z))) (tab_ext fun j hj => ?_)
    rw[show b*64+64=(b+1)*64 by omega]
  rw[hit]
  simp only[Option.bind_some,hmk]
  rw[Int.natCast_succ]
 .show b1 ((6:Int),_)=_
  rw[h1e]
  refine congrArg (fun z=>some (Sum.inr z)) (tab_ext fun j hj => ?_)
  rw[if_pos (by omega)]
def prT(f:Int)(ps:List (List Int))(n:Int)(mv:List Int):List Int:=tab 384 fun j=>prF f ps n mv (j/64) (j%64)
theorem blk_div{b i:Nat}(hi:i<64):(b*64+i)/64=b/\(b*64+i)%64=i:=by omega
theorem mayF_facts{f n:Int}{mv:List Int}(h:mayF f n mv=true):2<=fA f/\fA f<=88/\2<=fD f/\fD f<=72/\0<=n/\0<=n%fA f/\n%fA f<fA f/\0<=n/fA f/\n/fA f<fD f /\ -32<=mv.getD 0 0/\mv.getD 0 0<=31 /\ -32<=mv.getD 1 0/\mv.getD 1 0<=31:=by
 unfold mayF hasF mvB at h
 simp only[Bool.and_eq_true,decide_eq_true_eq,List.all_eq_true,List.mem_range]at h
 obtain⟨⟨h0,h1⟩,h2,_⟩:=h
 obtain⟨m0,m1⟩:=h2 0 (by omega)
 obtain⟨m2,m3⟩:=h2 1 (by omega)
 rcases fmt_or f with⟨g1,g2⟩|⟨g1,g2,g3,g4⟩
 .rw[g1]at h1;omega
 .obtain⟨c1,c2,c3,c4⟩:=cell_at (by omega) h0 h1
  exact⟨g1,g2,g3,g4,h0,c1,c2,c3,c4,m0,m1,m2,m3⟩
theorem hasF_facts{f n:Int}(h:hasF f n=true):2<=fA f/\fA f<=88/\2<=fD f/\fD f<=72/\0<=n/\0<=n%fA f/\n%fA f<fA f/\0<=n/fA f/\n/fA f<fD f:=by
 unfold hasF at h
 simp only[Bool.and_eq_true,decide_eq_true_eq]at h
 obtain⟨h0,h1⟩:=h
 rcases fmt_or f with⟨g1,g2⟩|⟨g1,g2,g3,g4⟩
 .rw[g1]at h1;omega
 .obtain⟨c1,c2,c3,c4⟩:=cell_at (by omega) h0 h1
  exact⟨g1,g2,g3,g4,h0,c1,c2,c3,c4⟩
theorem may_still{f n:Int}(h:hasF f n=true):mayF f n [0,0]=true:=by
 obtain⟨g1,g2,g3,g4,h0,c1,c2,c3,c4⟩:=hasF_facts h
 unfold mayF
 rw[h,show mvB [0,0]=true from rfl,decide_eq_true (show inX (32*(n%fA f)+[(0:Int),0].getD 0 0) (fA f) from ?_),decide_eq_true (show inX (32*(n/fA f)+[(0:Int),0].getD 1 0) (fD f) from ?_)]
 .rfl
 .unfold inX
  show 0<=32*(n/fA f)+0/\(32*(n/fA f)+0+1)/2+16<=16*fD f
  omega
 .unfold inX
  show 0<=32*(n%fA f)+0/\(32*(n%fA f)+0+1)/2+16<=16*fA f
  omega
theorem predict_ok{N:Nat}(hN:100<N)(f:Int){ps:List (List Int)}(n:Int)(mv:List Int)(hb:∀k,k<3->byteP (ps.getD k [])):
  motion_Predict N f ps n mv=some (bif rightF f ps&&hasF f n then bif mayF f n mv then(prT f ps n mv,0)else(List.replicate 384 0,8)else(List.replicate 384 0,1)):=by
 unfold motion_Predict
 obtain⟨b1,b2⟩:=ad_bnd f
 have g1:inK .i64 (fA f*fD f):=in64 (by omega) (by omega)
 simp only[cells_eq,pright_ok (N:=N) (by omega),may_okF (N:=N) (by omega),Option.isSome_some,if_true,Option.getD_some,g1,implies_true]
 have key:(bif(!rightF f ps)then(!rightF f ps)else(bif decide (n<0)then decide (n<0)else decide (fA f*fD f<=n)))=!(rightF f ps&&hasF f n):=by
  unfold hasF
  cases rightF f ps
  .rfl
  .by_cases h1:n<0
   .have:¬ 0<=n:=by omega
    simp[h1,this]
   .have h2:0<=n:=by omega
    by_cases h3:fA f*fD f<=n
    .have:¬n<fA f*fD f:=by omega
     simp[h1,h3,this]
    .have:n<fA f*fD f:=by omega
     simp[h1,h2,h3,this]
 rw[key]
 cases hrh:(rightF f ps&&hasF f n)
 .rfl
 .simp only[Bool.not_true,cond_false,cond_true]
  cases hm:mayF f n mv
  .rfl
  .simp only[Bool.and_eq_true]at hrh
   obtain⟨hA0,hlen⟩:=rightF_len hrh.1
   obtain⟨a1,a2,a3,a4,n0,c1,c2,c3,c4,m0,m1,m2,m3⟩:=mayF_facts hm
   obtain⟨_,_,k3,k4⟩:=chr_bnd m0 m1
   obtain⟨_,_,k7,k8⟩:=chr_bnd m2 m3
   have hp:0<fA f:=by omega
   have hit:=iter_lay (body:=motion_Predict_b1 N f ps n mv (some (fA f,fD f))) (N:=N) (by omega) (prF f ps n mv) (fun _=>0) (fun b hb6=>by
    obtain⟨q1,q2,q3⟩:=in5 hb6
    have q4:=inS (i:=b) (by omega)
    have q5:64*b+64<=384:=by omega
    have q6:inK .i64 ((b:Int)-4):=in64 (by omega) (by omega)
    have q7:inK .i64 ((b:Int)-4+1):=in64 (by omega) (by omega)
    have hk:max (0:Int) ((b:Int)-4+1)=((pk b:Nat):Int):=by unfold pk;omega
    have hk3:pk b<3:=by unfold pk;omega
    obtain⟨p1,p2,p3⟩:=in2 hk3
    obtain⟨w1,w2,w3,w4,w5,w6⟩:=wh_bnd f (pk b)
    have hl:=hlen (pk b) hk3
    have hlaid:=laid_ok (N:=N) (by omega) (hb (pk b) hk3) (w:=wid f (pk b)) (h:=hig f (pk b)) (x:=xb f n mv b) (y:=yb f n mv b) (fun i hi=>in_plane hm hb6 hi) hl (by omega) (by omega) (by omega)
    have hh:motion_halves N (ps.getD (pk b) []) (wid f (pk b))=some (ps.getD (pk b) [],wid f (pk b)):=rfl
    simp only[motion_Predict_b1,q2,decide_true,cond_true,q6,q7,and_self,if_true,hk,plane_eq N f hk3,Option.isSome_some,Option.getD_some,Int.toNat_natCast,hh,p1,p2,hk3]
    by_cases hb4:b<4
    .have e0:pk b=0:=by unfold pk;omega
     have ez:decide (((pk b:Nat):Int)=0)=true:=decide_eq_true (by omega)
     have e1:(b:Int)%2=((b%2:Nat):Int):=by omega
     have e2:(b:Int)/2=((b/2:Nat):Int):=by omega
     have ex:2*(16*(n%fA f)+((b%2:Nat):Int)*8)+mv.getD 0 0=xb f n mv b:=by unfold xb;rw[if_pos hb4]
     have ey:2*(16*(n/fA f)+((b/2:Nat):Int)*8)+mv.getD 1 0=yb f n mv b:=by unfold yb;rw[if_pos hb4]
     have i1:inK .i64 ((16:Int)*(n%fA f)):=in64 (by omega) (by omega)
     have i2:inK .i64 (((b%2:Nat):Int)*8):=in64 (by omega) (by omega)
     have i3:inK .i64 ((16:Int)*(n%fA f)+((b%2:Nat):Int)*8):=in64 (by omega) (by omega)
     have i4:inK .i64 ((2:Int)*(16*(n%fA f)+((b%2:Nat):Int)*8)):=in64 (by omega) (by omega)
     have i5:inK .i64 (xb f n mv b):=by rw[<-ex];exact in64 (by omega) (by omega)
     have i6:inK .i64 ((16:Int)*(n/fA f)):=in64 (by omega) (by omega)
     have i7:inK .i64 (((b/2:Nat):Int)*8):=in64 (by omega) (by omega)
     have i8:inK .i64 ((16:Int)*(n/fA f)+((b/2:Nat):Int)*8):=in64 (by omega) (by omega)
     have i9:inK .i64 ((2:Int)*(16*(n/fA f)+((b/2:Nat):Int)*8)):=in64 (by omega) (by omega)
     have i10:inK .i64 (yb f n mv b):=by rw[<-ey];exact in64 (by omega) (by omega)
     simp only[ez,cond_true,e1,e2,ex,ey,hlaid,i1,i2,i3,i4,i5,i6,i7,i8,i9,i10,q1,q5,q4,Option.isSome_some,Option.getD_some,and_self,if_true]
     rfl
    .have e0:1<=pk b:=by unfold pk;omega
     have ez:decide (((pk b:Nat):Int)=0)=false:=decide_eq_false (by omega)
     have ex:16*(n%fA f)+chr (mv.getD 0 0)=xb f n mv b:=by unfold xb;rw[if_neg hb4]
     have ey:16*(n/fA f)+chr (mv.getD 1 0)=yb f n mv b:=by unfold yb;rw[if_neg hb4]
     have i1:inK .i64 ((16:Int)*(n%fA f)):=in64 (by omega) (by omega)
     have i5:inK .i64 (xb f n mv b):=by rw[<-ex];exact in64 (by omega) (by omega)
     have i6:inK .i64 ((16:Int)*(n/fA f)):=in64 (by omega) (by omega)
     have i10:inK .i64 (yb f n mv b):=by rw[<-ey];exact in64 (by omega) (by omega)
     simp only[ez,cond_false,chroma_ok,Option.getD_some,ex,ey,hlaid,i1,i5,i6,i10,q1,q5,q4,Option.isSome_some,and_self,if_true]
     rfl) (fun xs=>by simp[motion_Predict_b1])
   rw[<-rep_tab]at hit
   simp only[n0,hp,and_self,if_true,hit,Option.bind_some]
   rfl
theorem rsize_eq(N:Nat)(f:Int):∃c d,ref16_Size N f=some [16*fA f,16*fD f,c,d]:=by
 unfold ref16_Size fA fD
 by_cases hb:f<0
 .have h1:f≠1:=by omega
  have h2:f≠2:=by omega
  have h3:f≠3:=by omega
  have h4:f≠4:=by omega
  have h5:f≠5:=by omega
  have h6:f≠6:=by omega
  exact⟨0,0,by simp[hb,h1,h2,h3,h4,h5,h6,List.replicate]⟩
 .by_cases hc:7<=f
  .have h1:f≠1:=by omega
   have h2:f≠2:=by omega
   have h3:f≠3:=by omega
   have h4:f≠4:=by omega
   have h5:f≠5:=by omega
   have h6:f≠6:=by omega
   exact⟨0,0,by simp[hb,hc,h1,h2,h3,h4,h5,h6,List.replicate]⟩
  .rcases(show f=0\/f=1\/f=2\/f=3\/f=4\/f=5\/f=6 by omega)with rfl|rfl|rfl|rfl|rfl|rfl|rfl
   .exact⟨0,0,rfl⟩
   .exact⟨6,1,rfl⟩
   .exact⟨9,1,rfl⟩
   .exact⟨18,1,rfl⟩
   .exact⟨18,2,rfl⟩
   .exact⟨18,4,rfl⟩
   .exact⟨2,1,rfl⟩
theorem fpos(f:Int):(0:Int)<=16*fA f/\(0:Int)<=16*fD f:=by rcases fmt_or f with h|h<;>omega
theorem rwide_eq(N:Nat)(f:Int)(k:Nat):ref17_Wide N f (k:Int)=some (wid f k):=by
 obtain⟨c,d,h⟩:=rsize_eq N f
 obtain⟨p1,p2⟩:=fpos f
 have e1:16*fA f/2=8*fA f:=by omega
 unfold ref17_Wide wid
 rw[h]
 by_cases hk:k=0
 .have:(k:Int)=0:=by omega
  simp[this,hk]
 .have:¬(k:Int)=0:=by omega
  simp[this,hk,p1,e1]
theorem rhigh_eq(N:Nat)(f:Int)(k:Nat):ref17_High N f (k:Int)=some (hig f k):=by
 obtain⟨c,d,h⟩:=rsize_eq N f
 obtain⟨p1,p2⟩:=fpos f
 have e1:16*fD f/2=8*fD f:=by omega
 unfold ref17_High hig
 rw[h]
 by_cases hk:k=0
 .have:(k:Int)=0:=by omega
  simp[this,hk]
 .have:¬(k:Int)=0:=by omega
  simp[this,hk,p2,e1]
theorem rpright_ok{N:Nat}(hN:10<N)(f:Int)(ps:List (List Int)):ref17_Right N f ps=some (rightF f ps):=by
 obtain⟨c,d,h⟩:=rsize_eq N f
 unfold ref17_Right rightF
 rw[h]
 have hit:=iter_all (body:=ref17_Right_b1 N f ps) 3 N (fun k=>decide (((ps.getD k []).length:Int)=wid f k*hig f k)) (fun i hi=>by
  obtain⟨g1,g2,g3⟩:=in2 hi
  have g4:=inS (i:=i) (by omega)
  obtain⟨_,_,_,_,b5,b6⟩:=wh_bnd f i
  have g5:inK .i64 (wid f i*hig f i):=in64 (by omega) (by omega)
  simp only[ref17_Right_b1,g1,g2,hi,decide_true,cond_true,Int.toNat_natCast,rwide_eq,rhigh_eq,Option.isSome_some,Option.getD_some,g5,and_self,if_true,g4]
  by_cases he:((ps.getD i []).length:Int)=wid f i*hig f i<;>simp[he, -List.getD_eq_getElem?_getD]) (by simp[ref17_Right_b1]) (by omega)
 simp only[Option.isSome_some,if_true,Option.getD_some,hit]
 simp only[List.getD_cons_zero]
 by_cases h0:fA f=0
 .have:16*fA f=0:=by omega
  simp[h0]
 .have:¬ 16*fA f=0:=by omega
  simp only[this,decide_false,cond_false,Option.bind_some,h0,ne_eq,not_false_eq_true,decide_true,Bool.true_and]
  cases (List.range 3).all fun k=>decide (((ps.getD k []).length:Int)=wid f k*hig f k)<;>rfl
theorem rmany_eq(N:Nat)(f:Int):ref16_Many N f=some (fA f*fD f):=by
 obtain⟨c,d,h⟩:=rsize_eq N f
 obtain⟨p1,p2⟩:=fpos f
 obtain⟨b1,b2⟩:=ad_bnd f
 have g1:inK .i64 (fA f*fD f):=in64 (by omega) (by omega)
 have e1:16*fA f/16=fA f:=by omega
 have e2:16*fD f/16=fD f:=by omega
 unfold ref16_Many
 rw[h]
 simp only[Option.isSome_some,Option.getD_some,List.getD_cons_zero,List.getD_cons_succ,p1,p2,e1,e2,g1,and_self,if_true]
theorem racross_eq(N:Nat)(f:Int):ref16_Across N f=some (fA f):=by
 obtain⟨c,d,h⟩:=rsize_eq N f
 obtain⟨p1,p2⟩:=fpos f
 have e1:16*fA f/16=fA f:=by omega
 unfold ref16_Across
 rw[h]
 simp only[Option.isSome_some,Option.getD_some,List.getD_cons_zero,p1,e1,and_self,if_true]
theorem inside_ok(N:Nat){v a:Int} (h1 : -1000000<=v)(h2:v<=1000000):ref18_inside N v (16*a)=some (decide (inX v a)):=by
 unfold ref18_inside inX
 have i1:inK .i64 (v+30):=in64 (by omega) (by omega)
 have i2:inK .i64 ((v+30)/2+(v+30)%2):=in64 (by omega) (by omega)
 rw[if_pos i1]
 by_cases h:0<=v
 .have e1:(0:Int)<=v+30:=by omega
  have e2:decide ((v+30)/2+(v+30)%2<16*a)=decide ((v+1)/2+16<=16*a):=decide_eq_decide.2 (by omega)
  simp[i2,h,e1,e2]
 .simp[h]
theorem rmv_loop{N:Nat}(hN:10<N)(mv:List Int):iter (ref18_May_b1 N mv) N 0=some (bif mvB mv then .inr ()else .inl ()):=
 iter_all 2 N (fun i=>decide (-32<=mv.getD i 0/\mv.getD i 0<=31)) (fun i hi=>by
  have g1:(i:Int)<2:=by omega
  have g4:=inS (i:=i) (by omega)
  simp only[ref18_May_b1,g1,hi,decide_true,cond_true,Int.natCast_nonneg,Int.toNat_natCast,and_self,implies_true,if_true,g4]
  by_cases h1:mv.getD i 0 < -32
  .have:¬(-32<=mv.getD i 0):=by omega
   simp[h1,this, -List.getD_eq_getElem?_getD]
  .by_cases h2:(31:Int)<mv.getD i 0
   .have:¬(mv.getD i 0<=31):=by omega
    simp[h1,h2,this, -List.getD_eq_getElem?_getD]
   .have e1 : -32<=mv.getD i 0:=by omega
    have e2:mv.getD i 0<=31:=by omega
    simp[h1,h2,e1,e2, -List.getD_eq_getElem?_getD]) (by simp[ref18_May_b1]) (by omega)
theorem rmay_okF{N:Nat}(hN:10<N)(f n:Int)(mv:List Int):ref18_May N f n mv=some (mayF f n mv):=by
 obtain⟨c,d,hs⟩:=rsize_eq N f
 unfold ref18_May mayF hasF
 simp only[rmany_eq,racross_eq,hs,Option.isSome_some,implies_true,if_true,Option.getD_some]
 rcases fmt_or f with⟨h1,h2⟩|⟨h1,h2,h3,h4⟩
 .rw[h1,h2]
  by_cases hn:n<0
  .have:¬ 0<=n:=by omega
   simp[hn,this]
  .have h0:0<=n:=by omega
   simp[hn,h0]
 .by_cases hn:n<0
  .have:¬ 0<=n:=by omega
   simp[hn,this]
  .have hn0:0<=n:=by omega
   by_cases hn1:fA f*fD f<=n
   .have:¬n<fA f*fD f:=by omega
    simp[hn,hn1,this]
   .have hn2:n<fA f*fD f:=by omega
    obtain⟨c1,c2,c3,c4⟩:=cell_at (by omega) hn0 hn2
    have hp:0<fA f:=by omega
    simp only[hn,hn1,hn0,hn2,hp,decide_false,decide_true,cond_false,rmv_loop hN,Bool.true_and,true_and,and_self,if_true]
    cases hm:mvB mv with
    | false=>rfl
    | true=>
     unfold mvB at hm
     simp only[decide_eq_true_eq,List.all_eq_true,List.mem_range]at hm
     obtain⟨m0,m1⟩:=hm 0 (by omega)
     obtain⟨m2,m3⟩:=hm 1 (by omega)
     have w1:=inside_ok N (v:=32*(n%fA f)+mv.getD 0 0) (a:=fA f) (by omega) (by omega)
     have w2:=inside_ok N (v:=32*(n/fA f)+mv.getD 1 0) (a:=fD f) (by omega) (by omega)
     have i1:inK .i64 ((32:Int)*(n%fA f)):=in64 (by omega) (by omega)
     have i2:inK .i64 ((32:Int)*(n/fA f)):=in64 (by omega) (by omega)
     have i3:inK .i64 ((32:Int)*(n%fA f)+mv.getD 0 0):=in64 (by omega) (by omega)
     have i4:inK .i64 ((32:Int)*(n/fA f)+mv.getD 1 0):=in64 (by omega) (by omega)
     simp only[cond_true,Option.bind_some,Sum.elim_inr,List.getD_cons_zero,List.getD_cons_succ,w1,w2,i1,i2,i3,i4,Option.isSome_some,Option.getD_some,implies_true,and_self,if_true,Bool.true_and]
     cases decide (inX (32*(n%fA f)+mv.getD 0 0) (fA f))<;>rfl
theorem rchr_loop{body:Int->Option (Int⊕Int)}{N:Nat}(hN:100<N){c:Int}(h0:0<=c)(h1:c<=64) (hb:∀s,body s=if(0:Int)<=s/\inK .i64 ((4:Int)*(s/2))/\inK .i64 (((4:Int)*(s/2))+4)then bif(decide ((((4:Int)*(s/2))+4)<=c))then(if inK .i64 (s+2)then some (.inl (s+2))else none)else some (.inr s)else none):
  iter body N 0=some (2*(c/4)):=by
 refine iter_to (fun i=>2*(i:Int)) (c/4).toNat rfl (fun i hi => ?_) ?_ (by omega)
 .have e:2*(i:Int)/2=i:=by omega
  have i1:inK .i64 ((4:Int)*i):=in64 (by omega) (by omega)
  have i2:inK .i64 ((4:Int)*i+4):=in64 (by omega) (by omega)
  have i3:inK .i64 (2*(i:Int)+2):=in64 (by omega) (by omega)
  have g:(4:Int)*i+4<=c:=by omega
  have g0:(0:Int)<=2*(i:Int):=by omega
  rw[hb,e,if_pos ⟨g0,i1,i2⟩,decide_eq_true g,cond_true,if_pos i3]
  refine congrArg (fun z=>some (Sum.inl z)) ?_
  omega
 .have e:2*(((c/4).toNat:Nat):Int)/2=c/4:=by omega
  have i1:inK .i64 ((4:Int)*(c/4)):=in64 (by omega) (by omega)
  have i2:inK .i64 ((4:Int)*(c/4)+4):=in64 (by omega) (by omega)
  have g:¬(4:Int)*(c/4)+4<=c:=by omega
  have g0:(0:Int)<=2*(((c/4).toNat:Nat):Int):=by omega
  rw[hb,e,if_pos ⟨g0,i1,i2⟩,decide_eq_false g,cond_false]
  refine congrArg (fun z=>some (Sum.inr z)) ?_
  omega
theorem rchroma_ok{N:Nat}(hN:100<N)(v:Int):ref18_Chroma N v=some (chr v):=by
 have c1:=clip_ge (a:=v) (lo := -64) (hi:=64) (by decide)
 have c2:=clip_le (a:=v) (lo := -64) (hi:=64) (by decide)
 unfold ref18_Chroma chr
 rw[ref01_clip N (show(-64:Int)<=64 by decide)]
 simp only[Option.isSome_some,if_true,Option.getD_some]
 generalize clip v (-64) 64=c at *
 by_cases hc:c<0
 .have e:max c (-c) = -c:=by omega
  have hcl:clip (-c) (-64) 64 = -c:=clip_id (by omega) (by omega)
  have hv1:ref18_Chroma_v1 N (-c)=some (2*((-c)/4)+if(-c)%4=0 then 0 else 1):=by
   unfold ref18_Chroma_v1
   have hn:¬(-c)<0:=by omega
   have h0:0 <= -c:=by omega
   rw[ref01_clip N (show(-64:Int)<=64 by decide),hcl]
   simp only[Option.isSome_some,if_true,Option.getD_some,hn,decide_false,cond_false,h0]
   rw[rchr_loop (body:=ref18_Chroma_v1_b1 N (some (-c))) hN (c := -c) h0 (by omega) (fun s=>rfl)]
   have i1:inK .i64 (2*((-c)/4)+1):=in64 (by omega) (by omega)
   by_cases hz:(-c)%4=0<;>simp[i1,hz]
  have i1:inK .i64 (-c):=in64 (by omega) (by omega)
  have i2:inK .i64 (-(2*((-c)/4)+if(-c)%4=0 then 0 else 1)):=by split<;>exact in64 (by omega) (by omega)
  simp only[hc,decide_true,cond_true,if_true,hv1,i1,i2,Option.isSome_some,Option.getD_some,and_self,e]
 .have e:max c (-c)=c:=by omega
  have h0:0<=c:=by omega
  simp only[hc,decide_false,cond_false,if_false,h0,if_true,e]
  rw[rchr_loop (body:=ref18_Chroma_b1 N (some c)) hN (c:=c) h0 (by omega) (fun s=>rfl)]
  have i1:inK .i64 (2*(c/4)+1):=in64 (by omega) (by omega)
  by_cases hz:c%4=0<;>simp[i1,hz]
theorem rat_ok(N:Nat){f:Int}{ps:List (List Int)}{k:Nat}(hk:k<3)(hl:byteP (ps.getD k [])) (hlen:((ps.getD k []).length:Int)=wid f k*hig f k) {x y:Int} (x0:0<=x) (x1:x<wid f k) (y0:0<=y) (y1:y<hig f k):
  ref17_At N f ps (k:Int) x y=some ((ps.getD k []).getD (y*wid f k+x).toNat 0):=by
 obtain⟨p1,p2,p3⟩:=in2 hk
 obtain⟨w1,w2,w3,w4,w5,w6⟩:=wh_bnd f k
 obtain⟨k1,k2⟩:=idx_lt x0 x1 y0 y1
 obtain⟨v1,v2⟩:=hl (y*wid f k+x).toNat
 have m0:0<=y*wid f k:=Int.mul_nonneg y0 w1
 have j1:inK .i64 (y*wid f k):=in64 (by omega) (by omega)
 have j2:inK .i64 (y*wid f k+x):=in64 (by omega) (by omega)
 have j3:inK .i64 ((ps.getD k []).getD (y*wid f k+x).toNat 0):=in64 (by omega) (by omega)
 have k3:y*wid f k+x<((ps.getD k []).length:Int):=by omega
 unfold ref17_At
 simp only[rwide_eq,Option.isSome_some,Option.getD_some,Int.toNat_natCast,p1,p2,hk,j1,j2,j3,k1,k3,and_self,if_true]
theorem rhat_ok{N:Nat}(hN:10<N){f:Int}{ps:List (List Int)}{k:Nat}(hk:k<3)(hl:byteP (ps.getD k [])) (hlen:((ps.getD k []).length:Int)=wid f k*hig f k) {x y:Int} (x0:0<=x) (x1:x/2+x%2<wid f k) (y0:0<=y) (y1:y/2+y%2<hig f k):
  ref18_At N f ps (k:Int) x y=some (hv (ps.getD k []) (wid f k) x y):=by
 obtain⟨w1,w2,w3,w4,w5,w6⟩:=wh_bnd f k
 have at_:∀a b:Int,0<=a->a<wid f k->0<=b->b<hig f k->ref17_At N f ps (k:Int) a b=some ((ps.getD k []).getD (b*wid f k+a).toNat 0):=fun a b a0 a1 b0 b1=>rat_ok N hk hl hlen a0 a1 b0 b1
 unfold ref18_At hv
 have s0:=hl ((y/2)*wid f k+x/2).toNat
 have s1:=hl ((y/2)*wid f k+(x/2+x%2)).toNat
 have s2:=hl ((y/2+y%2)*wid f k+x/2).toNat
 have s3:=hl ((y/2+y%2)*wid f k+(x/2+x%2)).toNat
 have a0:=at_ (x/2) (y/2) (by omega) (by omega) (by omega) (by omega)
 have a1:=at_ (x/2+x%2) (y/2) (by omega) (by omega) (by omega) (by omega)
 have a2:=at_ (x/2) (y/2+y%2) (by omega) (by omega) (by omega) (by omega)
 have a3:=at_ (x/2+x%2) (y/2+y%2) (by omega) (by omega) (by omega) (by omega)
 generalize (ps.getD k []).getD ((y/2)*wid f k+x/2).toNat 0=t0 at *
 generalize (ps.getD k []).getD ((y/2)*wid f k+(x/2+x%2)).toNat 0=t1 at *
 generalize (ps.getD k []).getD ((y/2+y%2)*wid f k+x/2).toNat 0=t2 at *
 generalize (ps.getD k []).getD ((y/2+y%2)*wid f k+(x/2+x%2)).toNat 0=t3 at *
 have bx:x%2*0=0:=Int.mul_zero _
 have hit:iter (ref18_At_b1 N f ps (k:Int) x y) N (0,0)=some (t0+t1+t2+t3):=by
  refine iter_to (fun i=>((match i with|0=>0|1=>t0|2=>t0+t1|3=>t0+t1+t2|_=>t0+t1+t2+t3:Int),(i:Int))) 4 rfl ?_ ?_ (by omega)
  .intro i hi
   have c0:inK .i64 (x%2*0):=in64 (by omega) (by omega)
   have c1:inK .i64 (x%2*1):=in64 (by omega) (by omega)
   have c2:inK .i64 (y%2*0):=in64 (by omega) (by omega)
   have c3:inK .i64 (y%2*1):=in64 (by omega) (by omega)
   have c4:inK .i64 (x/2+x%2*0):=in64 (by omega) (by omega)
   have c5:inK .i64 (x/2+x%2*1):=in64 (by omega) (by omega)
   have c6:inK .i64 (y/2+y%2*0):=in64 (by omega) (by omega)
   have c7:inK .i64 (y/2+y%2*1):=in64 (by omega) (by omega)
   have e0:x/2+x%2*0=x/2:=by omega
   have e1:x/2+x%2*1=x/2+x%2:=by omega
   have e2:y/2+y%2*0=y/2:=by omega
   have e3:y/2+y%2*1=y/2+y%2:=by omega
   rw[e0]at c4;rw[e1]at c5;rw[e2]at c6;rw[e3]at c7
   have d0:inK .i64 (0+t0):=in64 (by omega) (by omega)
   have d1:inK .i64 (t0+t1):=in64 (by omega) (by omega)
   have d2:inK .i64 (t0+t1+t2):=in64 (by omega) (by omega)
   have d3:inK .i64 (t0+t1+t2+t3):=in64 (by omega) (by omega)
   have n1:inK .i64 (0+1:Int):=in64 (by decide) (by decide)
   have n2:inK .i64 (1+1:Int):=in64 (by decide) (by decide)
   have n3:inK .i64 (2+1:Int):=in64 (by decide) (by decide)
   have n4:inK .i64 (3+1:Int):=in64 (by decide) (by decide)
   match i,hi with
   | 0,_=>
    show ref18_At_b1 N f ps (k:Int) x y (0,0)=_
    simp only[ref18_At_b1,show decide ((0:Int)<4)=true from rfl,cond_true,show(0:Int)%2=0 from rfl,show(0:Int)/2=0 from rfl,e0,e2,a0,c0,c2,c4,c6,d0,n1,x0,y0,Int.le_refl,Option.isSome_some,Option.getD_some,and_self,if_true]
    rw[Int.zero_add];rfl
   | 1,_=>
    show ref18_At_b1 N f ps (k:Int) x y (t0,1)=_
    simp only[ref18_At_b1,show decide ((1:Int)<4)=true from rfl,cond_true,show(1:Int)%2=1 from rfl,show(1:Int)/2=0 from rfl,e1,e2,a1,c1,c2,c5,c6,d1,n2,x0,y0,show(0:Int)<=1 by decide,Option.isSome_some,Option.getD_some,and_self,if_true]
    rfl
   | 2,_=>
    show ref18_At_b1 N f ps (k:Int) x y (t0+t1,2)=_
    simp only[ref18_At_b1,show decide ((2:Int)<4)=true from rfl,cond_true,show(2:Int)%2=0 from rfl,show(2:Int)/2=1 from rfl,e0,e3,a2,c0,c3,c4,c7,d2,n3,x0,y0,show(0:Int)<=2 by decide,Option.isSome_some,Option.getD_some,and_self,if_true]
    rfl
   | 3,_=>
    show ref18_At_b1 N f ps (k:Int) x y (t0+t1+t2,3)=_
    simp only[ref18_At_b1,show decide ((3:Int)<4)=true from rfl,cond_true,show(3:Int)%2=1 from rfl,show(3:Int)/2=1 from rfl,e1,e3,a3,c1,c3,c5,c7,d3,n4,x0,y0,show(0:Int)<=3 by decide,Option.isSome_some,Option.getD_some,and_self,if_true]
    rfl
  .rfl
 have f1:inK .i64 (t0+t1+t2+t3+2):=in64 (by omega) (by omega)
 have f2:0<=t0+t1+t2+t3+2:=by omega
 rw[if_pos x0,if_pos y0,hit,Option.bind_some,if_pos ⟨f1,f2⟩]
theorem rplace_ok(N:Nat){f n:Int}{mv:List Int}(h:mayF f n mv=true){b:Nat}(hb:b<6){i:Nat}(hi:i<64):∃X Y,ref17_Place N f n (b:Int) (i:Int)=some (((pk b:Nat):Int),X,Y)/\(b<4->2*X+mv.getD 0 0=xb f n mv b+2*((i%8:Nat):Int)/\2*Y+mv.getD 1 0=yb f n mv b+2*((i/8:Nat):Int))/\(¬b<4->2*X+chr (mv.getD 0 0)=xb f n mv b+2*((i%8:Nat):Int)/\2*Y+chr (mv.getD 1 0)=yb f n mv b+2*((i/8:Nat):Int))/\0<=X/\X<=100000/\0<=Y/\Y<=100000:=by
 obtain⟨a1,a2,a3,a4,n0,c1,c2,c3,c4,m0,m1,m2,m3⟩:=mayF_facts h
 have hp:0<fA f:=by omega
 have d1:(i:Int)%8=((i%8:Nat):Int):=by omega
 have d2:(i:Int)/8=((i/8:Nat):Int):=by omega
 unfold ref17_Place
 simp only[racross_eq,Option.isSome_some,Option.getD_some,n0,hp,and_self,if_true,d1,d2]
 by_cases hb4:b<4
 .have e0:pk b=0:=by unfold pk;omega
  have d4:(b:Int)<4:=by omega
  have e1:(b:Int)%2=((b%2:Nat):Int):=by omega
  have e2:(b:Int)/2=((b/2:Nat):Int):=by omega
  have j1:inK .i64 ((16:Int)*(n%fA f)):=in64 (by omega) (by omega)
  have j2:inK .i64 ((8:Int)*((b%2:Nat):Int)):=in64 (by omega) (by omega)
  have j3:inK .i64 ((16:Int)*(n%fA f)+8*((b%2:Nat):Int)):=in64 (by omega) (by omega)
  have j4:inK .i64 ((16:Int)*(n%fA f)+8*((b%2:Nat):Int)+((i%8:Nat):Int)):=in64 (by omega) (by omega)
  have j5:inK .i64 ((16:Int)*(n/fA f)):=in64 (by omega) (by omega)
  have j6:inK .i64 ((8:Int)*((b/2:Nat):Int)):=in64 (by omega) (by omega)
  have j7:inK .i64 ((16:Int)*(n/fA f)+8*((b/2:Nat):Int)):=in64 (by omega) (by omega)
  have j8:inK .i64 ((16:Int)*(n/fA f)+8*((b/2:Nat):Int)+((i/8:Nat):Int)):=in64 (by omega) (by omega)
  refine⟨16*(n%fA f)+8*((b%2:Nat):Int)+((i%8:Nat):Int),16*(n/fA f)+8*((b/2:Nat):Int)+((i/8:Nat):Int),?_,fun _ => ?_,fun hh=>absurd hb4 hh,by omega,by omega,by omega,by omega⟩
  .simp only[d4,decide_true,cond_true,e1,e2,j1,j2,j3,j4,j5,j6,j7,j8,Int.natCast_nonneg,and_self,if_true,e0]
   rfl
  .unfold xb yb
   rw[if_pos hb4,if_pos hb4]
   omega
 .have d4:¬(b:Int)<4:=by omega
  have ek:(b:Int)-3=((pk b:Nat):Int):=by unfold pk;omega
  have j0:inK .i64 ((pk b:Nat):Int):=in64 (by omega) (by omega)
  have j1:inK .i64 ((8:Int)*(n%fA f)):=in64 (by omega) (by omega)
  have j2:inK .i64 ((8:Int)*(n%fA f)+((i%8:Nat):Int)):=in64 (by omega) (by omega)
  have j3:inK .i64 ((8:Int)*(n/fA f)):=in64 (by omega) (by omega)
  have j4:inK .i64 ((8:Int)*(n/fA f)+((i/8:Nat):Int)):=in64 (by omega) (by omega)
  refine⟨8*(n%fA f)+((i%8:Nat):Int),8*(n/fA f)+((i/8:Nat):Int),?_,fun hh=>absurd hh hb4,fun _ => ?_,by omega,by omega,by omega,by omega⟩
  .simp only[d4,decide_false,cond_false,ek,j0,j1,j2,j3,j4,Int.natCast_nonneg,and_self,if_true]
  .unfold xb yb
   rw[if_neg hb4,if_neg hb4]
   omega
theorem rpredict_ok{N:Nat}(hN:100<N){f:Int}{ps:List (List Int)}{n:Int}{mv:List Int}(hb:∀k,k<3->byteP (ps.getD k []))(hr:rightF f ps=true)(hm:mayF f n mv=true):ref18_Predict N f ps n mv=some (prT f ps n mv):=by
 obtain⟨_,hlen⟩:=rightF_len hr
 obtain⟨a1,a2,a3,a4,n0,c1,c2,c3,c4,m0,m1,m2,m3⟩:=mayF_facts hm
 obtain⟨_,_,k3,k4⟩:=chr_bnd m0 m1
 obtain⟨_,_,k7,k8⟩:=chr_bnd m2 m3
 have hit:=iter_fill2 (b1:=ref18_Predict_b1 N f ps n mv) (b2:=ref18_Predict_b2 N f ps n mv) (fun xs=>((64:Int),(64:Int),false,xs)) (fun v=>v.2.2.2) (fun _=>rfl) (N:=N) (by omega) (fun j=>prF f ps n mv (j/64) (j%64))
  (fun b hb xs=>by
   obtain⟨q1,q2,q3⟩:=in5 hb
   have q4:=inS (i:=b) (by omega)
   simp only[ref18_Predict_b1,q2,decide_true,cond_true,q4,if_true])
  (fun b hb6 i hi s1 xs=>by
   obtain⟨q1,q2,q3⟩:=in5 hb6
   have g1:(i:Int)<64:=by omega
   have g4:=inS (i:=i) (by omega)
   have g5:b*64+i<384:=by omega
   obtain⟨e1,e2⟩:=blk_div (b:=b) hi
   have hk3:pk b<3:=by unfold pk;omega
   obtain⟨X,Y,hpl,hlu,hch,X0,X1,Y0,Y1⟩:=rplace_ok N hm hb6 hi
   obtain⟨x0,x1,y0,y1⟩:=in_plane hm hb6 hi
   have hat:=rhat_ok (N:=N) (by omega) hk3 (hb (pk b) hk3) (hlen (pk b) hk3) x0 x1 y0 y1
   have i1:inK .i64 ((2:Int)*X):=in64 (by omega) (by omega)
   have i2:inK .i64 ((2:Int)*Y):=in64 (by omega) (by omega)
   simp only[ref18_Predict_b2,g1,decide_true,cond_true,hpl,Option.isSome_some,Option.getD_some,if_true,rchroma_ok hN,Int.toNat_natCast]
   by_cases hb4:b<4
   .obtain⟨ex,ey⟩:=hlu hb4
    have ez:decide (((pk b:Nat):Int)=0)=true:=decide_eq_true (by unfold pk;omega)
    have i3:inK .i64 ((2:Int)*X+mv.getD 0 0):=in64 (by omega) (by omega)
    have i4:inK .i64 ((2:Int)*Y+mv.getD 1 0):=in64 (by omega) (by omega)
    rw[ex]at i3
    rw[ey]at i4
    simp only[ez,i1,i2,i3,i4,q1,q2,g1,g5,Int.natCast_nonneg,implies_true,Bool.true_eq_false,false_imp_iff,and_self,ex,ey,hat,Option.isSome_some,if_true,cond_true,Option.getD_some,g4,e1,e2]
    rfl
   .obtain⟨ex,ey⟩:=hch hb4
    have ez:decide (((pk b:Nat):Int)=0)=false:=decide_eq_false (by unfold pk;omega)
    have i3:inK .i64 ((2:Int)*X+chr (mv.getD 0 0)):=in64 (by omega) (by omega)
    have i4:inK .i64 ((2:Int)*Y+chr (mv.getD 1 0)):=in64 (by omega) (by omega)
    rw[ex]at i3
    rw[ey]at i4
    simp only[ez,i1,i2,i3,i4,q1,q2,g1,g5,Int.natCast_nonneg,implies_true,Bool.false_eq_true,false_imp_iff,and_self,ex,ey,hat,Option.isSome_some,if_true,cond_false,Option.getD_some,g4,e1,e2]
    rfl)
  (fun b s1 xs=>by simp[ref18_Predict_b2]) (fun xs=>by simp[ref18_Predict_b1]) (fun _=>0)
 rw[<-rep_tab]at hit
 unfold ref18_Predict
 rw[hit]
 rfl
/-! ### frames and stores that are laid anew -/
def areaN(f:Int)(k:Nat):Nat:=(wid f k*hig f k).toNat
def flatP(f s:Int):List (List Int):=tab 3 fun k=>List.replicate (areaN f k) s
theorem area_bnd(f:Int)(k:Nat):areaN f k<=1622016:=by
 obtain⟨_,_,_,_,b5,b6⟩:=wh_bnd f k
 unfold areaN
 omega
theorem area_of{f:Int}{ps:List (List Int)}(h:rightF f ps=true){k:Nat}(hk:k<3):(ps.getD k []).length=areaN f k:=by
 have:=(rightF_len h).2 k hk
 unfold areaN
 omega
/-- A loop that lays a row number by number. -/
theorem row_fill{S O:Type}{body:S->Option (S⊕O)}(mk:Nat->List Int->S)(out:List Int->O){n N:Nat}(F:Nat->Int){z:List Int}(hz:z.length=n)
  (hs:∀i,i<n->∀xs,xs.length=n->body (mk i xs)=some (.inl (mk (i+1) (xs.set i (F i))))) (he:∀xs,xs.length=n->body (mk n xs)=some (.inr (out xs))) (hN:n<N):iter body N (mk 0 z)=some (out (tab n F)):=by
 refine iter_to (fun i=>mk i (tab n fun k=>if k<i then F k else z.getD k 0)) n ?_ ?_ ?_ hN
 .show mk 0 z=mk 0 _
  refine congrArg (mk 0) ?_
  refine(tab_of 0 hz).trans (tab_ext fun k hk => ?_)
  rw[if_neg (by omega)]
 .intro i hi
  show body (mk i _)=_
  rw[hs i hi _ (tab_len _ _),tab_set]
  refine congrArg (fun l=>some (Sum.inl (mk (i+1) l))) (tab_ext fun k hk => ?_)
  by_cases h1:k=i
  .rw[if_pos h1,if_pos (by omega),h1]
  .by_cases h2:k<i
   .rw[if_neg h1,if_pos h2,if_pos (by omega)]
   .rw[if_neg h1,if_neg h2,if_neg (by omega)]
 .show body (mk n _)=_
  rw[he _ (tab_len _ _)]
  refine congrArg (fun l=>some (Sum.inr (out l))) (tab_ext fun k hk => ?_)
  rw[if_pos hk]
def vB(x:Int):Bool:=decide (-255<=x)&&decide (x<=255)
def sRight(f:Int)(zs:List (List Int)):Bool:=decide (fA f≠0)&&(List.range 3).all fun k=>decide (((zs.getD k []).length:Int)=wid f k*hig f k)&&(zs.getD k []).all vB
theorem sRight_right{f:Int}{zs:List (List Int)}(h:sRight f zs=true):rightF f zs=true:=by
 unfold sRight at h
 unfold rightF
 simp only[Bool.and_eq_true,decide_eq_true_eq,List.all_eq_true,List.mem_range]at h⊢
 exact⟨h.1,fun k hk=>(h.2 k hk).1⟩
theorem sRight_val{f:Int}{zs:List (List Int)}(h:sRight f zs=true){k:Nat}(hk:k<3)(i:Nat) : -255<=(zs.getD k []).getD i 0/\(zs.getD k []).getD i 0<=255:=by
 unfold sRight at h
 simp only[Bool.and_eq_true,List.all_eq_true,List.mem_range]at h
 have:=(h.2 k hk).2
 generalize zs.getD k []=l at *
 rw[List.getD_eq_getElem?_getD]
 cases hi:l[i]? with
 | none=>decide
 | some x=>
  have:=this x (List.mem_of_getElem? hi)
  unfold vB at this
  simpa using this
theorem all_take{p:Int->Bool}{l:List Int}{j:Nat}(hj:j<l.length):(l.take (j+1)).all p=((l.take j).all p&&p (l.getD j 0)):=by
 have e:l[j]? = some (l.getD j 0):=by rw[List.getD_eq_getElem?_getD,List.getElem?_eq_getElem hj];rfl
 rw[List.take_add_one,List.all_append,e]
 simp
def diffT(ps qs:List (List Int)):List (List Int):=tab 3 fun k=>tab (ps.getD k []).length fun i=>(ps.getD k []).getD i 0-(qs.getD k []).getD i 0
def addT(ps zs:List (List Int)):List (List Int):=tab 3 fun k=>tab (ps.getD k []).length fun i=>clip ((ps.getD k []).getD i 0+(zs.getD k []).getD i 0) 0 255
theorem rep_ok(N:Nat){n c:Int}(h0:0<=n)(h1:n<=281474976710656)(c0:0<=c)(c1:c<=255):rep N 1 n ((List.replicate 1 0).set 0 c)=some (n.toNat,n.toNat,List.replicate n.toNat c):=by
 have e:((List.replicate 1 (0:Int)).set 0 c)=[c]:=rfl
 rw[e]
 unfold rep
 rw[if_pos ⟨rfl,rfl,h0,h1,by unfold inK;exact⟨c0,c1⟩⟩]
 rfl
theorem pnew_ok{N:Nat}(hN:10<N)(f s:Int):planes_New N f s=some (bif decide (fA f≠0)then(f,flatP f (clip s 0 255),0)else(0,List.replicate 3 [],1)):=by
 unfold planes_New
 simp only[size_eq,Option.isSome_some,if_true,Option.getD_some]
 cases hA:decide (fA f≠0)
 .rfl
 .simp only[Bool.not_true,cond_false,cond_true]
  have hit:=iter_fill (body:=planes_New_b1 N f s) 3 N (fun k=>List.replicate (areaN f k) (clip s 0 255)) (fun _=>[]) (fun i hi=>by
   obtain⟨g1,g2,g3⟩:=in2 hi
   have g4:=inS (i:=i) (by omega)
   obtain⟨_,_,_,_,b5,b6⟩:=wh_bnd f i
   have g5:inK .i64 (wid f i*hig f i):=in64 (by omega) (by omega)
   have c1:=clip_ge (a:=s) (lo:=0) (hi:=255) (by decide)
   have c2:=clip_le (a:=s) (lo:=0) (hi:=255) (by decide)
   have g6:inK .u8 (clip s 0 255):=by unfold inK;exact⟨c1,c2⟩
   simp only[planes_New_b1,g1,g2,hi,decide_true,cond_true,Int.toNat_natCast,and_self,if_true,plane_eq N f hi,Option.isSome_some,Option.getD_some,whole_clip N (show(0:Int)<=255 by decide),rep_ok N b5 (by omega) c1 c2,g5,g6,g4,List.length_replicate]
   rfl) (fun xs=>by simp[planes_New_b1]) (by omega)
  rw[<-rep_tab]at hit
  rw[hit]
  rfl
theorem pnewo_ok(N:Nat)(f s:Int):planes_New_own N f s=some (bif decide (fA f≠0)then(f,areaN f 0,areaN f 1,areaN f 2,0,areaN f 0,List.replicate (areaN f 0) (clip s 0 255),areaN f 1,List.replicate (areaN f 1) (clip s 0 255),areaN f 2,List.replicate (areaN f 2) (clip s 0 255))else(0,0,0,0,1,0,[],0,[],0,[])):=by
 unfold planes_New_own
 simp only[size_eq,Option.isSome_some,if_true,Option.getD_some]
 cases hA:decide (fA f≠0)
 .rfl
 .have c1:=clip_ge (a:=s) (lo:=0) (hi:=255) (by decide)
  have c2:=clip_le (a:=s) (lo:=0) (hi:=255) (by decide)
  have g6:inK .u8 (clip s 0 255):=by unfold inK;exact⟨c1,c2⟩
  have p0:formats_Plane N f 0=some (wid f 0,hig f 0):=plane_eq N f (k:=0) (by omega)
  have p1:formats_Plane N f 1=some (wid f 1,hig f 1):=plane_eq N f (k:=1) (by omega)
  have p2:formats_Plane N f 2=some (wid f 2,hig f 2):=plane_eq N f (k:=2) (by omega)
  have q:∀k,0<=wid f k*hig f k/\wid f k*hig f k<=281474976710656/\inK .i64 (wid f k*hig f k):=fun k=>by
   obtain⟨_,_,_,_,b5,b6⟩:=wh_bnd f k
   exact⟨b5,by omega,in64 (by omega) (by omega)⟩
  simp only[Bool.not_true,cond_false,cond_true,p0,p1,p2,Option.isSome_some,Option.getD_some,if_true,whole_clip N (show(0:Int)<=255 by decide),rep_ok N (q 0).1 (q 0).2.1 c1 c2,rep_ok N (q 1).1 (q 1).2.1 c1 c2,rep_ok N (q 2).1 (q 2).2.1 c1 c2,g6,(q 0).2.2,(q 1).2.2,(q 2).2.2,and_self]
  rfl
theorem snewo_ok(N:Nat)(f:Int):stores_New_own N f=some (bif decide (fA f≠0)then(f,areaN f 0,areaN f 1,areaN f 2,0,areaN f 0,List.replicate (areaN f 0) 0,areaN f 1,List.replicate (areaN f 1) 0,areaN f 2,List.replicate (areaN f 2) 0)else(0,0,0,0,1,0,[],0,[],0,[])):=by
 unfold stores_New_own
 simp only[size_eq,Option.isSome_some,if_true,Option.getD_some]
 cases hA:decide (fA f≠0)
 .rfl
 .have p0:formats_Plane N f 0=some (wid f 0,hig f 0):=plane_eq N f (k:=0) (by omega)
  have p1:formats_Plane N f 1=some (wid f 1,hig f 1):=plane_eq N f (k:=1) (by omega)
  have p2:formats_Plane N f 2=some (wid f 2,hig f 2):=plane_eq N f (k:=2) (by omega)
  have q:∀k,0<=wid f k*hig f k/\wid f k*hig f k*8<=140737488355328/\inK .i64 (wid f k*hig f k):=fun k=>by
   obtain⟨_,_,_,_,b5,b6⟩:=wh_bnd f k
   exact⟨b5,by omega,in64 (by omega) (by omega)⟩
  simp only[Bool.not_true,cond_false,cond_true,p0,p1,p2,Option.isSome_some,Option.getD_some,if_true,(q 0).1,(q 0).2.1,(q 0).2.2,(q 1).1,(q 1).2.1,(q 1).2.2,(q 2).1,(q 2).2.1,(q 2).2.2,and_self]
  rfl
theorem sright_ok{N:Nat}(hN:40000<N)(f:Int){zs:List (List Int)}(hl:∀k,k<3->(zs.getD k []).length<=30000):stores_Right N f zs=some (sRight f zs):=by
 have hin:∀k:Nat,k<3->∀b b1:Bool,iter (stores_Right_b2 N zs (b1,(k:Int))) N (b,0)=some (b&&(zs.getD k []).all vB,((zs.getD k []).length:Int),false):=fun k hk b b1=>by
  have hlk:=hl k hk
  have hn:((k:Int)).toNat=k:=Int.toNat_natCast k
  obtain⟨l,hle⟩:∃l,l=zs.getD k []:=⟨_,rfl⟩
  rw[<-hle]at hlk⊢
  refine iter_to (fun j=>(b&&(l.take j).all vB,(j:Int))) l.length ?_ ?_ ?_ (by omega)
  .simp
  .intro j hj
   have h1:(j:Int)<(l.length:Int):=by omega
   have g4:=inS (i:=j) (by omega)
   simp only[stores_Right_b2,hn,<-hle,h1,decide_true,cond_true,Int.natCast_nonneg,Int.toNat_natCast,and_self,if_true,g4]
   rw[all_take hj,Int.natCast_succ]
   unfold vB
   generalize (l.take j).all _=r
   generalize l.getD j 0=v
   cases b<;>cases r<;>by_cases h2 : -255<=v<;>simp[h2]
  .show stores_Right_b2 N zs _ (_,(l.length:Int))=_
   simp only[stores_Right_b2,hn,<-hle,Int.lt_irrefl,decide_false,cond_false,List.take_length]
 unfold stores_Right
 have hit:iter (stores_Right_b1 N f zs) N (decide (fA f≠0),0)=some (sRight f zs):=by
  refine iter_to (fun i=>(decide (fA f≠0)&&(List.range i).all (fun k=>decide (((zs.getD k []).length:Int)=wid f k*hig f k)&&(zs.getD k []).all vB),(i:Int))) 3 ?_ ?_ ?_ (by omega)
  .simp
  .intro i hi
   obtain⟨g1,g2,g3⟩:=in2 hi
   have g4:=inS (i:=i) (by omega)
   obtain⟨_,_,_,_,b5,b6⟩:=wh_bnd f i
   have g5:inK .i64 (wid f i*hig f i):=in64 (by omega) (by omega)
   simp only[stores_Right_b1,g1,g2,hi,decide_true,cond_true,Int.toNat_natCast,and_self,if_true,plane_eq N f hi,Option.isSome_some,Option.getD_some,g5,implies_true,hin i hi,Option.bind_some,g4]
   refine congrArg (fun z=>some (Sum.inl z)) ?_
   rw[List.range_succ,List.all_append,Int.natCast_succ]
   generalize (List.range i).all _=r
   cases decide (fA f≠0)<;>cases r<;>simp
  .simp[stores_Right_b1,sRight]
 simp only[size_eq,Option.isSome_some,if_true,Option.getD_some,hit,Option.bind_some]
theorem sdiff_ok{N:Nat}(hN:40000<N)(f g:Int){ps qs:List (List Int)}(hp:∀k,k<3->byteP (ps.getD k []))(hq:∀k,k<3->byteP (qs.getD k []))(hl:∀k,k<3->(ps.getD k []).length<=30000):
  stores_Diff N f ps g qs=some (bif rightF f ps&&(rightF g qs&&decide (f=g))then(f,diffT ps qs,0)else(0,[[],[],[]],1)):=by
 unfold stores_Diff
 simp only[pright_ok (N:=N) (by omega),Option.isSome_some,Option.getD_some,if_true,implies_true,and_self]
 cases hr:rightF f ps
 .rfl
 cases hs:rightF g qs
 .rfl
 by_cases hfg:f=g
 .subst hfg
  have hA:decide (fA f≠0)=true:=decide_eq_true (rightF_len hr).1
  rw[snewo_ok,hA]
  simp only[Bool.not_true,cond_false,cond_true,ne_eq,not_true,decide_false,Bool.and_self,decide_true,Option.isSome_some,if_true]
  have step:∀k,k<3->∀i,i<areaN f k->(i:Int)<((ps.getD k []).length:Int)/\(i:Int)<((qs.getD k []).length:Int)/\inK .i64 ((ps.getD k []).getD i 0)/\inK .i64 ((qs.getD k []).getD i 0)/\inK .i64 ((ps.getD k []).getD i 0-(qs.getD k []).getD i 0)/\inK .i64 ((i:Int)+1)/\(i:Int)<(areaN f k:Int):=fun k hk i hi=>by
   have e1:=area_of hr hk
   have e2:=area_of hs hk
   have e3:=hl k hk
   have v1:=hp k hk i
   have v2:=hq k hk i
   exact⟨by omega,by omega,in64 (by omega) (by omega),in64 (by omega) (by omega),in64 (by omega) (by omega),in64 (by omega) (by omega),by omega⟩
  have e:∀k,k<3->(ps.getD k []).length=areaN f k:=fun k hk=>area_of hr hk
  have hlt:∀k,k<3->areaN f k<N:=fun k hk=>by have:=e k hk;have:=hl k hk;omega
  obtain⟨C,hC⟩:∃C:Int×Nat×Nat×Nat×Int×Nat×List Int×Nat×List Int×Nat×List Int,C=(f,areaN f 0,areaN f 1,areaN f 2,0,areaN f 0,List.replicate (areaN f 0) 0,areaN f 1,List.replicate (areaN f 1) 0,areaN f 2,List.replicate (areaN f 2) 0):=⟨_,rfl⟩
  rw[<-hC]
  have l3:iter (stores_Diff_b3 N ps qs (some C)) N (0,List.replicate (areaN f 0) 0)=some (((areaN f 0:Nat):Int),false,tab (areaN f 0) fun i=>(ps.getD 0 []).getD i 0-(qs.getD 0 []).getD i 0):=
   row_fill (fun i xs=>((i:Int),xs)) (fun xs=>(((areaN f 0:Nat):Int),false,xs)) _ (by simp) (fun i hi xs hx=>by
    obtain⟨s1,s2,s3,s4,s5,s6,s7⟩:=step 0 (by omega) i hi
    simp only[stores_Diff_b3,s1,s2,s3,s4,s5,s6,s7,hi,hC,decide_true,cond_true,Int.natCast_nonneg,Int.toNat_natCast,and_self,if_true,Option.getD_some]
    rw[Int.natCast_succ]) (fun xs hx=>by simp only[stores_Diff_b3,e 0 (by omega),Int.lt_irrefl,decide_false,cond_false]) (hlt 0 (by omega))
  have l2:∀b:Bool,iter (stores_Diff_b2 N ps qs (some C)) N (0,b,List.replicate (areaN f 1) 0)=some (((areaN f 1:Nat):Int),false,tab (areaN f 1) fun i=>(ps.getD 1 []).getD i 0-(qs.getD 1 []).getD i 0):=fun b=>
   row_fill (fun i xs=>((i:Int),bif decide (i=0)then b else true,xs)) (fun xs=>(((areaN f 1:Nat):Int),false,xs)) _ (by simp) (fun i hi xs hx=>by
    obtain⟨s1,s2,s3,s4,s5,s6,s7⟩:=step 1 (by omega) i hi
    have s8:decide (i+1=0)=false:=decide_eq_false (by omega)
    simp only[stores_Diff_b2,s1,s2,s3,s4,s5,s6,s7,s8,hi,hC,decide_true,cond_true,cond_false,Int.natCast_nonneg,Int.toNat_natCast,and_self,if_true,Option.getD_some]
    rw[Int.natCast_succ]) (fun xs hx=>by simp only[stores_Diff_b2,e 1 (by omega),Int.lt_irrefl,decide_false,cond_false]) (hlt 1 (by omega))
  have l1:∀b:Bool,iter (stores_Diff_b1 N ps qs (some C)) N (0,b,List.replicate (areaN f 2) 0)=some (((areaN f 2:Nat):Int),false,tab (areaN f 2) fun i=>(ps.getD 2 []).getD i 0-(qs.getD 2 []).getD i 0):=fun b=>
   row_fill (fun i xs=>((i:Int),bif decide (i=0)then b else true,xs)) (fun xs=>(((areaN f 2:Nat):Int),false,xs)) _ (by simp) (fun i hi xs hx=>by
    obtain⟨s1,s2,s3,s4,s5,s6,s7⟩:=step 2 (by omega) i hi
    have s8:decide (i+1=0)=false:=decide_eq_false (by omega)
    simp only[stores_Diff_b1,s1,s2,s3,s4,s5,s6,s7,s8,hi,hC,decide_true,cond_true,cond_false,Int.natCast_nonneg,Int.toNat_natCast,and_self,if_true,Option.getD_some]
    rw[Int.natCast_succ]) (fun xs hx=>by simp only[stores_Diff_b1,e 2 (by omega),Int.lt_irrefl,decide_false,cond_false]) (hlt 2 (by omega))
  have z0:((some C).getD default).2.2.2.2.2.2.1=List.replicate (areaN f 0) 0:=by rw[hC];rfl
  have z1:((some C).getD default).2.2.2.2.2.2.2.2.1=List.replicate (areaN f 1) 0:=by rw[hC];rfl
  have z2:((some C).getD default).2.2.2.2.2.2.2.2.2.2=List.replicate (areaN f 2) 0:=by rw[hC];rfl
  rw[z0,z1,z2,l3]
  simp only[Option.bind_some,l2,l1]
  rw[if_pos ⟨by rw[hC,tab_len];rfl,by rw[hC,tab_len];rfl,by rw[hC,tab_len];rfl⟩]
  have hd:diffT ps qs=[tab (areaN f 0) fun i=>(ps.getD 0 []).getD i 0-(qs.getD 0 []).getD i 0,tab (areaN f 1) fun i=>(ps.getD 1 []).getD i 0-(qs.getD 1 []).getD i 0,tab (areaN f 2) fun i=>(ps.getD 2 []).getD i 0-(qs.getD 2 []).getD i 0]:=by
   rw[<-e 0 (by omega),<-e 1 (by omega),<-e 2 (by omega)];rfl
  rw[hd,hC]
  rfl
 .have h1:decide (f=g)=false:=decide_eq_false hfg
  have h2:decide (f≠g)=true:=decide_eq_true hfg
  simp only[Bool.not_true,cond_false,h2,cond_true,h1,Bool.and_false]
theorem sadd_ok{N:Nat}(hN:40000<N)(f g:Int){ps zs:List (List Int)}(hp:∀k,k<3->byteP (ps.getD k []))(hl:∀k,k<3->(ps.getD k []).length<=30000)(hz:∀k,k<3->(zs.getD k []).length<=30000):
  stores_Add N f ps g zs=some (bif rightF f ps&&(sRight g zs&&decide (f=g))then(f,addT ps zs,0)else(0,[[],[],[]],1)):=by
 unfold stores_Add
 simp only[pright_ok (N:=N) (by omega),sright_ok hN g hz,Option.isSome_some,Option.getD_some,if_true,implies_true,and_self]
 cases hr:rightF f ps
 .rfl
 cases hs:sRight g zs
 .rfl
 by_cases hfg:f=g
 .subst hfg
  have hA:decide (fA f≠0)=true:=decide_eq_true (rightF_len hr).1
  have hc0:clip 0 0 255=0:=rfl
  rw[pnewo_ok,hA,hc0]
  simp only[Bool.not_true,cond_false,cond_true,ne_eq,not_true,decide_false,Bool.and_self,decide_true,Option.isSome_some,if_true]
  have step:∀k,k<3->∀i,i<areaN f k->(i:Int)<((ps.getD k []).length:Int)/\(i:Int)<((zs.getD k []).length:Int)/\inK .i64 ((ps.getD k []).getD i 0)/\inK .i64 ((ps.getD k []).getD i 0+(zs.getD k []).getD i 0)/\inK .i64 ((i:Int)+1)/\(i:Int)<(areaN f k:Int)/\inK .u8 (clip ((ps.getD k []).getD i 0+(zs.getD k []).getD i 0) 0 255):=fun k hk i hi=>by
   have e1:=area_of hr hk
   have e2:=area_of (sRight_right hs) hk
   have e3:=hl k hk
   have v1:=hp k hk i
   have v2:=sRight_val hs hk i
   exact⟨by omega,by omega,in64 (by omega) (by omega),in64 (by omega) (by omega),in64 (by omega) (by omega),by omega,by unfold inK;exact⟨clip_ge (by decide),clip_le (by decide)⟩⟩
  have e:∀k,k<3->(ps.getD k []).length=areaN f k:=fun k hk=>area_of hr hk
  have hlt:∀k,k<3->areaN f k<N:=fun k hk=>by have:=e k hk;have:=hl k hk;omega
  have wc:∀a,whole_Clip N a 0 255=some (clip a 0 255):=fun a=>whole_clip N (by decide)
  obtain⟨C,hC⟩:∃C:Int×Nat×Nat×Nat×Int×Nat×List Int×Nat×List Int×Nat×List Int,C=(f,areaN f 0,areaN f 1,areaN f 2,0,areaN f 0,List.replicate (areaN f 0) 0,areaN f 1,List.replicate (areaN f 1) 0,areaN f 2,List.replicate (areaN f 2) 0):=⟨_,rfl⟩
  rw[<-hC]
  have l3:iter (stores_Add_b3 N ps zs (some C)) N (0,List.replicate (areaN f 0) 0)=some (((areaN f 0:Nat):Int),false,tab (areaN f 0) fun i=>clip ((ps.getD 0 []).getD i 0+(zs.getD 0 []).getD i 0) 0 255):=
   row_fill (fun i xs=>((i:Int),xs)) (fun xs=>(((areaN f 0:Nat):Int),false,xs)) _ (by simp) (fun i hi xs hx=>by
    obtain⟨s1,s2,s3,s4,s5,s6,s7⟩:=step 0 (by omega) i hi
    simp only[stores_Add_b3,s1,s2,s3,s4,s5,s6,s7,hi,hC,wc,decide_true,cond_true,Int.natCast_nonneg,Int.toNat_natCast,and_self,if_true,Option.getD_some,Option.isSome_some]
    rw[Int.natCast_succ]) (fun xs hx=>by simp only[stores_Add_b3,e 0 (by omega),Int.lt_irrefl,decide_false,cond_false]) (hlt 0 (by omega))
  have l2:∀b:Bool,iter (stores_Add_b2 N ps zs (some C)) N (0,b,List.replicate (areaN f 1) 0)=some (((areaN f 1:Nat):Int),false,tab (areaN f 1) fun i=>clip ((ps.getD 1 []).getD i 0+(zs.getD 1 []).getD i 0) 0 255):=fun b=>
   row_fill (fun i xs=>((i:Int),bif decide (i=0)then b else true,xs)) (fun xs=>(((areaN f 1:Nat):Int),false,xs)) _ (by simp) (fun i hi xs hx=>by
    obtain⟨s1,s2,s3,s4,s5,s6,s7⟩:=step 1 (by omega) i hi
    have s8:decide (i+1=0)=false:=decide_eq_false (by omega)
    simp only[stores_Add_b2,s1,s2,s3,s4,s5,s6,s7,s8,hi,hC,wc,decide_true,cond_true,cond_false,Int.natCast_nonneg,Int.toNat_natCast,and_self,if_true,Option.getD_some,Option.isSome_some]
    rw[Int.natCast_succ]) (fun xs hx=>by simp only[stores_Add_b2,e 1 (by omega),Int.lt_irrefl,decide_false,cond_false]) (hlt 1 (by omega))
  have l1:∀b:Bool,iter (stores_Add_b1 N ps zs (some C)) N (0,b,List.replicate (areaN f 2) 0)=some (((areaN f 2:Nat):Int),false,tab (areaN f 2) fun i=>clip ((ps.getD 2 []).getD i 0+(zs.getD 2 []).getD i 0) 0 255):=fun b=>
   row_fill (fun i xs=>((i:Int),bif decide (i=0)then b else true,xs)) (fun xs=>(((areaN f 2:Nat):Int),false,xs)) _ (by simp) (fun i hi xs hx=>by
    obtain⟨s1,s2,s3,s4,s5,s6,s7⟩:=step 2 (by omega) i hi
    have s8:decide (i+1=0)=false:=decide_eq_false (by omega)
    simp only[stores_Add_b1,s1,s2,s3,s4,s5,s6,s7,s8,hi,hC,wc,decide_true,cond_true,cond_false,Int.natCast_nonneg,Int.toNat_natCast,and_self,if_true,Option.getD_some,Option.isSome_some]
    rw[Int.natCast_succ]) (fun xs hx=>by simp only[stores_Add_b1,e 2 (by omega),Int.lt_irrefl,decide_false,cond_false]) (hlt 2 (by omega))
  have z0:((some C).getD default).2.2.2.2.2.2.1=List.replicate (areaN f 0) 0:=by rw[hC];rfl
  have z1:((some C).getD default).2.2.2.2.2.2.2.2.1=List.replicate (areaN f 1) 0:=by rw[hC];rfl
  have z2:((some C).getD default).2.2.2.2.2.2.2.2.2.2=List.replicate (areaN f 2) 0:=by rw[hC];rfl
  rw[z0,z1,z2,l3]
  simp only[Option.bind_some,l2,l1]
  rw[if_pos ⟨by rw[hC,tab_len];rfl,by rw[hC,tab_len];rfl,by rw[hC,tab_len];rfl⟩]
  have hd:addT ps zs=[tab (areaN f 0) fun i=>clip ((ps.getD 0 []).getD i 0+(zs.getD 0 []).getD i 0) 0 255,tab (areaN f 1) fun i=>clip ((ps.getD 1 []).getD i 0+(zs.getD 1 []).getD i 0) 0 255,tab (areaN f 2) fun i=>clip ((ps.getD 2 []).getD i 0+(zs.getD 2 []).getD i 0) 0 255]:=by
   rw[<-e 0 (by omega),<-e 1 (by omega),<-e 2 (by omega)];rfl
  rw[hd,hC]
  rfl
 .have h1:decide (f=g)=false:=decide_eq_false hfg
  have h2:decide (f≠g)=true:=decide_eq_true hfg
  simp only[Bool.not_true,cond_false,h2,cond_true,h1,Bool.and_false]
def driftT(f:Int)(ps zs:List (List Int))(n:Int)(mv:List Int):List Int:=tab 384 fun j=>(prT f (addT ps zs) n mv).getD j 0-(prT f ps n mv).getD j 0
theorem addT_byte(ps zs:List (List Int))(k:Nat):byteP ((addT ps zs).getD k []):=fun i=>by
 unfold addT
 by_cases hk:k<3
 .rw[tab_get _ _ hk]
  by_cases hi:i<(ps.getD k []).length
  .rw[tab_get _ _ hi];exact⟨clip_ge (by decide),clip_le (by decide)⟩
  .rw[tab_out _ _ (by omega)];decide
 .rw[tab_out _ _ (by omega)];simp
theorem addT_right{f:Int}{ps zs:List (List Int)}(h:rightF f ps=true):rightF f (addT ps zs)=true:=by
 obtain⟨h1,h2⟩:=rightF_len h
 unfold rightF
 simp only[Bool.and_eq_true,decide_eq_true_eq,List.all_eq_true,List.mem_range]
 refine⟨h1,fun k hk => ?_⟩
 unfold addT
 rw[tab_get _ _ hk,tab_len]
 exact h2 k hk
theorem prT_bnd{f:Int}{ps:List (List Int)}(hb:∀k,k<3->byteP (ps.getD k []))(n:Int)(mv:List Int){j:Nat}(hj:j<384):0<=(prT f ps n mv).getD j 0/\(prT f ps n mv).getD j 0<=255:=by
 unfold prT
 rw[tab_get _ _ hj]
 exact hv_bnd (hb (pk (j/64)) (by unfold pk;omega)) _ _ _
theorem sdrift_ok{N:Nat}(hN:40000<N)(f g:Int){ps zs:List (List Int)}(n:Int)(mv:List Int)(hp:∀k,k<3->byteP (ps.getD k []))(hl:∀k,k<3->(ps.getD k []).length<=30000)(hz:∀k,k<3->(zs.getD k []).length<=30000):
  stores_Drift N f ps g zs n mv=some (bif rightF f ps&&(sRight g zs&&decide (f=g))then(bif hasF f n then bif mayF f n mv then(driftT f ps zs n mv,0)else(List.replicate 384 0,8)else(List.replicate 384 0,1))else(List.replicate 384 0,1)):=by
 unfold stores_Drift
 rw[sadd_ok hN f g hp hl hz]
 cases hr:(rightF f ps&&(sRight g zs&&decide (f=g)))
 .rfl
 .simp only[Bool.and_eq_true]at hr
  simp only[cond_true,Option.isSome_some,Option.getD_some,if_true,ne_eq,not_true,decide_false,cond_false]
  simp only[predict_ok (N:=N) (by omega) f n mv (fun k _=>addT_byte ps zs k),predict_ok (N:=N) (by omega) f n mv hp,addT_right hr.1,hr.1]
  cases hh:hasF f n
  .rfl
  cases hm:mayF f n mv
  .rfl
  .simp only[Bool.and_self,cond_true,Option.isSome_some,Option.getD_some,if_true,ne_eq,not_true,decide_false,cond_false]
   have hit:iter (stores_Drift_b1 N (some (prT f ps n mv,0))) N (0,prT f (addT ps zs) n mv)=some (driftT f ps zs n mv):=by
    refine iter_to (fun b=>((b:Int),tab 384 fun k=>if k<b*64 then(prT f (addT ps zs) n mv).getD k 0-(prT f ps n mv).getD k 0 else(prT f (addT ps zs) n mv).getD k 0)) 6 ?_ ?_ ?_ (by omega)
    .refine Prod.ext rfl ?_
     show prT f (addT ps zs) n mv=tab 384 (fun k=>if k<0*64 then(prT f (addT ps zs) n mv).getD k 0-(prT f ps n mv).getD k 0 else(prT f (addT ps zs) n mv).getD k 0)
     refine(tab_of 0 (show(prT f (addT ps zs) n mv).length=384 from tab_len _ _)).trans (tab_ext fun k hk => ?_)
     rw[if_neg (by omega)]
    .intro b hb
     obtain⟨g1,g2,g3⟩:=in5 hb
     have g4:=inS (i:=b) (by omega)
     have hin:iter (stores_Drift_b2 N (some (prT f ps n mv,0)) ((b:Int),tab 384 fun k=>if k<b*64 then(prT f (addT ps zs) n mv).getD k 0-(prT f ps n mv).getD k 0 else(prT f (addT ps zs) n mv).getD k 0)) N (0,tab 384 fun k=>if k<b*64 then(prT f (addT ps zs) n mv).getD k 0-(prT f ps n mv).getD k 0 else(prT f (addT ps zs) n mv).getD k 0)=some ((64:Int),false,tab 384 fun k=>if k<(b+1)*64 then(prT f (addT ps zs) n mv).getD k 0-(prT f ps n mv).getD k 0 else(prT f (addT ps zs) n mv).getD k 0):=by
      refine iter_to (fun i=>((i:Int),tab 384 fun k=>if k<b*64+i then(prT f (addT ps zs) n mv).getD k 0-(prT f ps n mv).getD k 0 else(prT f (addT ps zs) n mv).getD k 0)) 64 ?_ ?_ ?_ (by omega)
      .simp
      .intro i hi
       have h1:(i:Int)<64:=by omega
       have h2:=inS (i:=i) (by omega)
       have h3:b*64+i<384:=by omega
       have v1:=prT_bnd (fun k _=>addT_byte ps zs k) n mv (f:=f) h3
       have v2:=prT_bnd hp n mv (f:=f) h3
       have h4:(tab 384 fun k=>if k<b*64+i then(prT f (addT ps zs) n mv).getD k 0-(prT f ps n mv).getD k 0 else(prT f (addT ps zs) n mv).getD k 0).getD (b*64+i) 0=(prT f (addT ps zs) n mv).getD (b*64+i) 0:=by
        rw[tab_get _ _ h3,if_neg (by omega)]
       have h5:inK .i64 ((prT f (addT ps zs) n mv).getD (b*64+i) 0-(prT f ps n mv).getD (b*64+i) 0):=in64 (by omega) (by omega)
       show stores_Drift_b2 N _ _ ((i:Int),_)=_
       simp only[stores_Drift_b2,g1,g2,h1,h2,h3,h4,h5,decide_true,cond_true,Int.natCast_nonneg,Int.toNat_natCast,and_self,if_true,Option.getD_some]
       refine congrArg (fun z=>some (Sum.inl z)) (Prod.ext (Int.natCast_succ i).symm ?_)
       show(tab 384 (fun k=>if k<b*64+i then(prT f (addT ps zs) n mv).getD k 0-(prT f ps n mv).getD k 0 else(prT f (addT ps zs) n mv).getD k 0)).set (b*64+i) ((prT f (addT ps zs) n mv).getD (b*64+i) 0-(prT f ps n mv).getD (b*64+i) 0)=tab 384 (fun k=>if k<b*64+(i+1)then(prT f (addT ps zs) n mv).getD k 0-(prT f ps n mv).getD k 0 else(prT f (addT ps zs) n mv).getD k 0)
       rw[tab_set]
       refine tab_ext fun j hj => ?_
       by_cases hji:j=b*64+i
       .rw[if_pos hji,if_pos (by omega),hji]
       .by_cases hlt:j<b*64+i
        .rw[if_neg hji,if_pos hlt,if_pos (by omega)]
        .rw[if_neg hji,if_neg hlt,if_neg (by omega)]
      .show stores_Drift_b2 N _ _ ((64:Int),_)=_
       rw[show b*64+64=(b+1)*64 by omega]
       simp[stores_Drift_b2]
     show stores_Drift_b1 N _ ((b:Int),_)=_
     simp only[stores_Drift_b1,g2,decide_true,cond_true,hin,Option.bind_some,g4,if_true]
     rw[Int.natCast_succ]
    .show stores_Drift_b1 N _ ((6:Int),_)=_
     simp only[stores_Drift_b1,Int.lt_irrefl,decide_false,cond_false]
     refine congrArg (fun z=>some (Sum.inr z)) (tab_ext fun j hj => ?_)
     rw[if_pos (by omega)]
   rw[hit]
   rfl
theorem diff_get(ps qs:List (List Int)){k:Nat}(hk:k<3):(diffT ps qs).getD k []=tab (ps.getD k []).length fun i=>(ps.getD k []).getD i 0-(qs.getD k []).getD i 0:=by
 unfold diffT;rw[tab_get _ _ hk]
theorem add_get(ps qs:List (List Int)){k:Nat}(hk:k<3):(addT ps qs).getD k []=tab (ps.getD k []).length fun i=>clip ((ps.getD k []).getD i 0+(qs.getD k []).getD i 0) 0 255:=by
 unfold addT;rw[tab_get _ _ hk]
theorem diff_right{f:Int}{ps qs:List (List Int)}(hr:rightF f ps=true)(hp:∀k,k<3->byteP (ps.getD k []))(hq:∀k,k<3->byteP (qs.getD k [])):sRight f (diffT ps qs)=true:=by
 obtain⟨h1,h2⟩:=rightF_len hr
 unfold sRight
 simp only[Bool.and_eq_true,decide_eq_true_eq,List.all_eq_true,List.mem_range]
 refine⟨h1,fun k hk=>⟨by rw[diff_get _ _ hk,tab_len];exact h2 k hk,fun x hx => ?_⟩⟩
 rw[diff_get _ _ hk]at hx
 unfold tab at hx
 obtain⟨i,hi,rfl⟩:=List.mem_map.1 hx
 have v1:=hp k hk i
 have v2:=hq k hk i
 unfold vB
 simp only[Bool.and_eq_true,decide_eq_true_eq]
 omega
theorem flat_get(f s:Int){k:Nat}(hk:k<3):(flatP f s).getD k []=tab (areaN f k) fun _=>s:=by
 unfold flatP
 rw[tab_get _ _ hk,rep_tab]
theorem flat_byte{f s:Int}(h0:0<=s)(h1:s<=255):∀k,k<3->byteP ((flatP f s).getD k []):=fun k hk i=>by
 rw[flat_get f s hk]
 by_cases hi:i<areaN f k
 .rw[tab_get _ _ hi];exact⟨h0,h1⟩
 .rw[tab_out _ _ (by omega)];decide
theorem flat_right{f s:Int}(h:fA f≠0):rightF f (flatP f s)=true:=by
 unfold rightF
 simp only[Bool.and_eq_true,decide_eq_true_eq,List.all_eq_true,List.mem_range]
 refine⟨h,fun k hk => ?_⟩
 rw[flat_get f s hk,tab_len]
 obtain⟨_,_,_,_,b5,b6⟩:=wh_bnd f k
 unfold areaN
 omega
theorem bytes_of3{ps:List (List Int)}(h:∀xs,xs∈ps->∀x,x∈xs->inK .u8 x)(k:Nat):byteP (ps.getD k []):=by
 refine byteP_of fun x hx => ?_
 rw[List.getD_eq_getElem?_getD]at hx
 cases hi:ps[k]? with
 | none=>rw[hi]at hx;cases hx
 | some xs=>
  rw[hi]at hx
  exact h xs (List.mem_of_getElem? hi) x hx
theorem rnewo_ok{N:Nat}(hN:2000000<N)(f s:Int):ref17_New_own N f s=some (f,areaN f 0,areaN f 1,areaN f 2,areaN f 0,tab (areaN f 0) (fun _=>clip s 0 255),areaN f 1,tab (areaN f 1) (fun _=>clip s 0 255),areaN f 2,tab (areaN f 2) (fun _=>clip s 0 255)):=by
 have g6:inK .u8 (clip s 0 255):=by unfold inK;exact⟨clip_ge (by decide),clip_le (by decide)⟩
 have q:∀k,0<=wid f k*hig f k/\wid f k*hig f k*1<=140737488355328/\inK .i64 (wid f k*hig f k):=fun k=>by
  obtain⟨_,_,_,_,b5,b6⟩:=wh_bnd f k
  exact⟨b5,by omega,in64 (by omega) (by omega)⟩
 have w0:ref17_Wide N f 0=some (wid f 0):=rwide_eq N f 0
 have w1:ref17_Wide N f 1=some (wid f 1):=rwide_eq N f 1
 have w2:ref17_Wide N f 2=some (wid f 2):=rwide_eq N f 2
 have h0:ref17_High N f 0=some (hig f 0):=rhigh_eq N f 0
 have h1:ref17_High N f 1=some (hig f 1):=rhigh_eq N f 1
 have h2:ref17_High N f 2=some (hig f 2):=rhigh_eq N f 2
 have gen:∀(body:Int->Option Int->Option Int->Int×List Int->Option ((Int×List Int)⊕List Int)) (k:Nat),
   (∀i:Nat,i<areaN f k->∀xs,body s (some (wid f k)) (some (hig f k)) ((i:Int),xs)=some (.inl ((i:Int)+1,xs.set i (clip s 0 255))))->
   (∀xs,body s (some (wid f k)) (some (hig f k)) (((areaN f k:Nat):Int),xs)=some (.inr xs))->
   iter (body s (some (wid f k)) (some (hig f k))) N (0,List.replicate (areaN f k) 0)=some (tab (areaN f k) fun _=>clip s 0 255):=fun body k e1 e2=>
  row_fill (body:=body s (some (wid f k)) (some (hig f k))) (fun i xs=>((i:Int),xs)) (fun xs=>xs) (fun _=>clip s 0 255) (by simp) (fun i hi xs _=>by
   show body s _ _ ((i:Int),xs)=_
   rw[e1 i hi];rfl) (fun xs _=>e2 xs) (by have:=area_bnd f k;omega)
 have sl:∀k i:Nat,i<areaN f k->(i:Int)<((wid f k*hig f k).toNat:Int)/\i<(wid f k*hig f k).toNat/\inK .i64 ((i:Int)+1):=fun k i hi=>by
  have:=area_bnd f k
  unfold areaN at hi this
  exact⟨by omega,hi,in64 (by omega) (by omega)⟩
 have l3:=gen (fun s c d=>ref17_New_own_b3 N s c d) 0 (fun i hi xs=>by
  obtain⟨s1,s2,s3⟩:=sl 0 i hi
  simp only[ref17_New_own_b3,Option.getD_some,s1,s2,s3,decide_true,cond_true,ref01_clip N (show(0:Int)<=255 by decide),Option.isSome_some,g6,Int.natCast_nonneg,Int.toNat_natCast,and_self,if_true]) (fun xs=>by
  show ref17_New_own_b3 N s _ _ (((wid f 0*hig f 0).toNat:Int),xs)=_
  simp only[ref17_New_own_b3,Option.getD_some,Int.lt_irrefl,decide_false,cond_false])
 have l2:=gen (fun s c d=>ref17_New_own_b2 N s c d) 1 (fun i hi xs=>by
  obtain⟨s1,s2,s3⟩:=sl 1 i hi
  simp only[ref17_New_own_b2,Option.getD_some,s1,s2,s3,decide_true,cond_true,ref01_clip N (show(0:Int)<=255 by decide),Option.isSome_some,g6,Int.natCast_nonneg,Int.toNat_natCast,and_self,if_true]) (fun xs=>by
  show ref17_New_own_b2 N s _ _ (((wid f 1*hig f 1).toNat:Int),xs)=_
  simp only[ref17_New_own_b2,Option.getD_some,Int.lt_irrefl,decide_false,cond_false])
 have l1:=gen (fun s c d=>ref17_New_own_b1 N s c d) 2 (fun i hi xs=>by
  obtain⟨s1,s2,s3⟩:=sl 2 i hi
  simp only[ref17_New_own_b1,Option.getD_some,s1,s2,s3,decide_true,cond_true,ref01_clip N (show(0:Int)<=255 by decide),Option.isSome_some,g6,Int.natCast_nonneg,Int.toNat_natCast,and_self,if_true]) (fun xs=>by
  show ref17_New_own_b1 N s _ _ (((wid f 2*hig f 2).toNat:Int),xs)=_
  simp only[ref17_New_own_b1,Option.getD_some,Int.lt_irrefl,decide_false,cond_false])
 have a0:(wid f 0*hig f 0).toNat=areaN f 0:=rfl
 have a1:(wid f 1*hig f 1).toNat=areaN f 1:=rfl
 have a2:(wid f 2*hig f 2).toNat=areaN f 2:=rfl
 unfold ref17_New_own
 simp only[w0,w1,w2,h0,h1,h2,Option.isSome_some,Option.getD_some,(q 0).1,(q 0).2.1,(q 0).2.2,(q 1).1,(q 1).2.1,(q 1).2.2,(q 2).1,(q 2).2.1,(q 2).2.2,and_self,if_true,a0,a1,a2,l1,l2,l3,Option.bind_some]
theorem vall{l:List Int}:(List.range l.length).all (fun i=>vB (l.getD i 0))=l.all vB:=by
 have h:∀j,j<=l.length->(List.range j).all (fun i=>vB (l.getD i 0))=(l.take j).all vB:=fun j=>by
  induction j with
  | zero=>intro _;simp
  | succ j ih=>
   intro hj
   rw[List.range_succ,List.all_append,ih (by omega),all_take (by omega)]
   simp only[List.all_cons,List.all_nil,Bool.and_true]
 have:=h l.length (Nat.le_refl _)
 rwa [List.take_length]at this
theorem rsright_ok{N:Nat}(hN:40000<N)(f:Int){zs:List (List Int)}(hl:∀k,k<3->(zs.getD k []).length<=30000):ref34_Right N f zs=some (sRight f zs):=by
 have hit:=iter_all (body:=ref34_Right_b1 N f zs) 3 N (fun k=>decide (((zs.getD k []).length:Int)=wid f k*hig f k)&&(zs.getD k []).all vB) (fun k hk=>by
  obtain⟨g1,g2,g3⟩:=in2 hk
  have g4:=inS (i:=k) (by omega)
  obtain⟨_,_,_,_,b5,b6⟩:=wh_bnd f k
  have g5:inK .i64 (wid f k*hig f k):=in64 (by omega) (by omega)
  have hn:((k:Int)).toNat=k:=Int.toNat_natCast k
  have hlk:=hl k hk
  simp only[ref34_Right_b1,g1,g2,hk,hn,rwide_eq,rhigh_eq,Option.isSome_some,Option.getD_some,g5,decide_true,cond_true,and_self,if_true]
  by_cases hlen:((zs.getD k []).length:Int)=wid f k*hig f k
  .have h1:decide (((zs.getD k []).length:Int)≠wid f k*hig f k)=false:=decide_eq_false (fun h=>h hlen)
   rw[h1,cond_false,decide_eq_true hlen,Bool.true_and,<-vall]
   obtain⟨hy,hx⟩:=iter_try (body:=ref34_Right_b2 N zs (k:Int)) (fun i=>(i:Int)) (zs.getD k []).length N (fun i=>vB ((zs.getD k []).getD i 0)) (fun _=>.inl ()) (.inr ((((zs.getD k []).length:Nat):Int),(((zs.getD k []).length:Nat):Int),false)) (s0:=0) rfl
    (fun i hi hP=>by
     have q1:(i:Int)<((zs.getD k []).length:Int):=by omega
     have q4:=inS (i:=i) (by omega)
     unfold vB at hP
     simp only[Bool.and_eq_true,decide_eq_true_eq]at hP
     have q5:decide ((255:Int)<(zs.getD k []).getD i 0)=false:=decide_eq_false (by omega)
     have q6:decide ((zs.getD k []).getD i 0 < -255)=false:=decide_eq_false (by omega)
     simp only[ref34_Right_b2,g1,g2,hk,hn,q1,q5,q6,decide_true,cond_true,cond_false,Int.natCast_nonneg,Int.toNat_natCast,and_self,if_true,implies_true,q4]
     rw[Int.natCast_succ])
    (fun i hi hP=>by
     have q1:(i:Int)<((zs.getD k []).length:Int):=by omega
     have q5:(bif decide ((255:Int)<(zs.getD k []).getD i 0)then true else decide ((zs.getD k []).getD i 0 < -255))=true:=by
      unfold vB at hP
      by_cases h1:(255:Int)<(zs.getD k []).getD i 0
      .rw[decide_eq_true h1];rfl
      .by_cases h2:(zs.getD k []).getD i 0 < -255
       .rw[decide_eq_true h2];cases decide ((255:Int)<(zs.getD k []).getD i 0)<;>rfl
       .rw[decide_eq_true (show -255<=(zs.getD k []).getD i 0 by omega),decide_eq_true (show(zs.getD k []).getD i 0<=255 by omega)]at hP;cases hP
     simp only[ref34_Right_b2,g1,g2,hk,hn,q1,q5,decide_true,cond_true,cond_false,Int.natCast_nonneg,Int.toNat_natCast,and_self,if_true,implies_true])
    (by simp only[ref34_Right_b2,g1,g2,hk,hn,and_self,if_true,Int.lt_irrefl,decide_false,cond_false]) (by omega)
   cases hall:(List.range (zs.getD k []).length).all (fun i=>vB ((zs.getD k []).getD i 0))with
   | true=>rw[hy hall];simp only[Option.bind_some,Sum.elim_inr,g4,if_true,cond_true]
   | false=>obtain⟨j,_,_,hj⟩:=hx hall;rw[hj];rfl
  .have h1:decide (((zs.getD k []).length:Int)≠wid f k*hig f k)=true:=decide_eq_true hlen
   rw[h1,decide_eq_false hlen];rfl) (by simp[ref34_Right_b1]) (by omega)
 unfold ref34_Right sRight
 rw[rmany_eq]
 simp only[Option.isSome_some,if_true,Option.getD_some,hit]
 rcases fmt_or f with⟨h1,h2⟩|⟨h1,_,h3,_⟩
 .rw[h1,h2];rfl
 .have hm:0<fA f*fD f:=Int.mul_pos (by omega) (by omega)
  rw[decide_eq_false (show ¬fA f*fD f=0 by omega),decide_eq_true (show fA f≠0 by omega)]
  cases (List.range 3).all _<;>rfl
theorem rsadd_ok{N:Nat}(hN:2000000<N)(f:Int){ps zs:List (List Int)}(hp:∀k,k<3->byteP (ps.getD k []))(hl:∀k,k<3->(ps.getD k []).length<=30000)(hr:rightF f ps=true)(hs:sRight f zs=true)(g:Int):
  ref34_Add N f ps g zs=some (f,addT ps zs):=by
 unfold ref34_Add
 have hc0:clip 0 0 255=0:=rfl
 rw[rnewo_ok hN,hc0]
 simp only[Option.isSome_some,if_true]
 have step:∀k,k<3->∀i,i<areaN f k->(i:Int)<((ps.getD k []).length:Int)/\(i:Int)<((zs.getD k []).length:Int)/\inK .i64 ((ps.getD k []).getD i 0)/\inK .i64 ((ps.getD k []).getD i 0+(zs.getD k []).getD i 0)/\inK .i64 ((i:Int)+1)/\(i:Int)<(areaN f k:Int)/\inK .u8 (clip ((ps.getD k []).getD i 0+(zs.getD k []).getD i 0) 0 255):=fun k hk i hi=>by
  have e1:=area_of hr hk
  have e2:=area_of (sRight_right hs) hk
  have e3:=hl k hk
  have v1:=hp k hk i
  have v2:=sRight_val hs hk i
  exact⟨by omega,by omega,in64 (by omega) (by omega),in64 (by omega) (by omega),in64 (by omega) (by omega),by omega,by unfold inK;exact⟨clip_ge (by decide),clip_le (by decide)⟩⟩
 have e:∀k,k<3->(ps.getD k []).length=areaN f k:=fun k hk=>area_of hr hk
 have hlt:∀k,k<3->areaN f k<N:=fun k hk=>by have:=e k hk;have:=hl k hk;omega
 have wc:∀a,ref01_Clip N a 0 255=some (clip a 0 255):=fun a=>ref01_clip N (by decide)
 obtain⟨C,hC⟩:∃C:Int×Nat×Nat×Nat×Nat×List Int×Nat×List Int×Nat×List Int,C=(f,areaN f 0,areaN f 1,areaN f 2,areaN f 0,tab (areaN f 0) (fun _=>0),areaN f 1,tab (areaN f 1) (fun _=>0),areaN f 2,tab (areaN f 2) (fun _=>0)):=⟨_,rfl⟩
 rw[<-hC]
 have l3:iter (ref34_Add_b3 N ps zs (some C)) N (0,tab (areaN f 0) (fun _=>0))=some (tab (areaN f 0) fun i=>clip ((ps.getD 0 []).getD i 0+(zs.getD 0 []).getD i 0) 0 255):=
  row_fill (fun i xs=>((i:Int),xs)) (fun xs=>xs) _ (tab_len _ _) (fun i hi xs hx=>by
   obtain⟨s1,s2,s3,s4,s5,s6,s7⟩:=step 0 (by omega) i hi
   simp only[ref34_Add_b3,s1,s2,s3,s4,s5,s6,s7,hi,hC,wc,decide_true,cond_true,Int.natCast_nonneg,Int.toNat_natCast,and_self,if_true,Option.getD_some,Option.isSome_some]
   rw[Int.natCast_succ]) (fun xs hx=>by simp only[ref34_Add_b3,e 0 (by omega),Int.lt_irrefl,decide_false,cond_false]) (hlt 0 (by omega))
 have l2:iter (ref34_Add_b2 N ps zs (some C)) N (0,tab (areaN f 1) (fun _=>0))=some (tab (areaN f 1) fun i=>clip ((ps.getD 1 []).getD i 0+(zs.getD 1 []).getD i 0) 0 255):=
  row_fill (fun i xs=>((i:Int),xs)) (fun xs=>xs) _ (tab_len _ _) (fun i hi xs hx=>by
   obtain⟨s1,s2,s3,s4,s5,s6,s7⟩:=step 1 (by omega) i hi
   simp only[ref34_Add_b2,s1,s2,s3,s4,s5,s6,s7,hi,hC,wc,decide_true,cond_true,Int.natCast_nonneg,Int.toNat_natCast,and_self,if_true,Option.getD_some,Option.isSome_some]
   rw[Int.natCast_succ]) (fun xs hx=>by simp only[ref34_Add_b2,e 1 (by omega),Int.lt_irrefl,decide_false,cond_false]) (hlt 1 (by omega))
 have l1:iter (ref34_Add_b1 N ps zs (some C)) N (0,tab (areaN f 2) (fun _=>0))=some (tab (areaN f 2) fun i=>clip ((ps.getD 2 []).getD i 0+(zs.getD 2 []).getD i 0) 0 255):=
  row_fill (fun i xs=>((i:Int),xs)) (fun xs=>xs) _ (tab_len _ _) (fun i hi xs hx=>by
   obtain⟨s1,s2,s3,s4,s5,s6,s7⟩:=step 2 (by omega) i hi
   simp only[ref34_Add_b1,s1,s2,s3,s4,s5,s6,s7,hi,hC,wc,decide_true,cond_true,Int.natCast_nonneg,Int.toNat_natCast,and_self,if_true,Option.getD_some,Option.isSome_some]
   rw[Int.natCast_succ]) (fun xs hx=>by simp only[ref34_Add_b1,e 2 (by omega),Int.lt_irrefl,decide_false,cond_false]) (hlt 2 (by omega))
 have z0:((some C).getD default).2.2.2.2.2.1=tab (areaN f 0) (fun _=>(0:Int)):=by rw[hC];rfl
 have z1:((some C).getD default).2.2.2.2.2.2.2.1=tab (areaN f 1) (fun _=>(0:Int)):=by rw[hC];rfl
 have z2:((some C).getD default).2.2.2.2.2.2.2.2.2=tab (areaN f 2) (fun _=>(0:Int)):=by rw[hC];rfl
 rw[z0,z1,z2,l3]
 simp only[Option.bind_some,l2,l1]
 rw[if_pos ⟨by rw[hC,tab_len];rfl,by rw[hC,tab_len];rfl,by rw[hC,tab_len];rfl⟩]
 have hd:addT ps zs=[tab (areaN f 0) fun i=>clip ((ps.getD 0 []).getD i 0+(zs.getD 0 []).getD i 0) 0 255,tab (areaN f 1) fun i=>clip ((ps.getD 1 []).getD i 0+(zs.getD 1 []).getD i 0) 0 255,tab (areaN f 2) fun i=>clip ((ps.getD 2 []).getD i 0+(zs.getD 2 []).getD i 0) 0 255]:=by
  rw[<-e 0 (by omega),<-e 1 (by omega),<-e 2 (by omega)];rfl
 rw[hd,hC]
 rfl
theorem rsdrift_ok{N:Nat}(hN:2000000<N){f:Int}{ps zs:List (List Int)}{n:Int}{mv:List Int}(hp:∀k,k<3->byteP (ps.getD k []))(hl:∀k,k<3->(ps.getD k []).length<=30000)(hr:rightF f ps=true)(hs:sRight f zs=true)(hm:mayF f n mv=true)(g:Int):
  ref34_Drift N f ps g zs n mv=some (driftT f ps zs n mv):=by
 unfold ref34_Drift
 rw[rsadd_ok hN f hp hl hr hs g]
 simp only[Option.isSome_some,Option.getD_some,true_and,rpredict_ok (N:=N) (by omega) hp hr hm,rpredict_ok (N:=N) (by omega) (fun k _=>addT_byte ps zs k) (addT_right (zs:=zs) hr) hm,if_true]
 have hit:=iter_fill2 (b1:=ref34_Drift_b1 N (some (prT f (addT ps zs) n mv)) (some (prT f ps n mv))) (b2:=ref34_Drift_b2 N (some (prT f (addT ps zs) n mv)) (some (prT f ps n mv))) (fun xs=>((64:Int),(64:Int),false,xs)) (fun v=>v.2.2.2) (fun _=>rfl) (N:=N) (by omega) (fun j=>(prT f (addT ps zs) n mv).getD j 0-(prT f ps n mv).getD j 0)
  (fun b hb xs=>by
   obtain⟨q1,q2,q3⟩:=in5 hb
   have q4:=inS (i:=b) (by omega)
   simp only[ref34_Drift_b1,q2,decide_true,cond_true,q4,if_true])
  (fun b hb6 i hi s1 xs=>by
   obtain⟨q1,q2,q3⟩:=in5 hb6
   have g1:(i:Int)<64:=by omega
   have g4:=inS (i:=i) (by omega)
   have g5:b*64+i<384:=by omega
   have v1:=prT_bnd (fun k _=>addT_byte ps zs k) n mv (f:=f) g5
   have v2:=prT_bnd hp n mv (f:=f) g5
   have g6:inK .i64 ((prT f (addT ps zs) n mv).getD (b*64+i) 0-(prT f ps n mv).getD (b*64+i) 0):=in64 (by omega) (by omega)
   simp only[ref34_Drift_b2,g1,decide_true,cond_true,Option.getD_some,Int.toNat_natCast,q1,q2,g4,g5,g6,Int.natCast_nonneg,and_self,if_true])
  (fun b s1 xs=>by simp[ref34_Drift_b2]) (fun xs=>by simp[ref34_Drift_b1]) (fun _=>0)
 rw[<-rep_tab]at hit
 rw[hit]
 rfl
theorem few_len{N:Nat}{f:Int}{zs:List (List Int)}:∃b,law34_Light N f zs=some b/\(b=true->∀k,k<3->(zs.getD k []).length<=30000):=⟨_,rfl,fun h k hk=>by
 simp only[Bool.cond_false_right,Bool.and_eq_true,decide_eq_true_eq]at h
 rcases(show k=0\/k=1\/k=2 by omega)with rfl|rfl|rfl<;>omega⟩
theorem few_len17{N:Nat}{f:Int}{zs:List (List Int)}:∃b,law17_Light N f zs=some b/\(b=true->∀k,k<3->(zs.getD k []).length<=30000):=⟨_,rfl,fun h k hk=>by
 simp only[Bool.cond_false_right,Bool.and_eq_true,decide_eq_true_eq]at h
 rcases(show k=0\/k=1\/k=2 by omega)with rfl|rfl|rfl<;>omega⟩
theorem not_has34{f:Int}{R:Bool}{n:Int}{b:Bool}(hb:b=!R):(bif(bif b then true else decide (n<0))then true else decide (fA f*fD f<=n))=!(R&&hasF f n):=by
 subst hb
 unfold hasF
 cases R
 .rfl
 .by_cases h1:n<0
  .have:¬ 0<=n:=by omega
   simp[h1,this]
  .have h2:0<=n:=by omega
   by_cases h3:fA f*fD f<=n
   .have:¬n<fA f*fD f:=by omega
    simp[h1,h3,this]
   .have:n<fA f*fD f:=by omega
    simp[h1,h2,h3,this]
end Go.Proofs.YtnpokkaalcfbfaaGreatDoor
