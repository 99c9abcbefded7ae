/- What the printed models answer: plain laws. -/
import Derived.Test.YtnpokkaalcfbfaaGreatDoorZ4
set_option linter.unusedVariables false
set_option linter.unusedSimpArgs false
namespace Go.Proofs.YtnpokkaalcfbfaaGreatDoor
open Go.X
theorem and1{x:Int}(h:0<=x):((Int.toNat x &&& Int.toNat 1:Nat):Int)=x%2:=and_one x h
theorem inS{i:Nat}(h:i<4294967296):inK .i64 ((i:Int)+1):=in64 (by omega) (by omega)
theorem shrP(v:Int)(k:Nat)(h:0<=v):0<=v/2 ^ k:=(shr_in v k h).1
theorem m2(x:Int):0<=x%2/\x%2<=1:=by omega
theorem fits_eq(N:Nat){v n:Int}:outbits_fits N v n=some (decide (0<=n/\n<=32/\0<=v/\v<2 ^ n.toNat)):=by
 unfold outbits_fits
 by_cases h1:0<=n
 .by_cases h2:n<=32
  .by_cases h3:0<=v
   .obtain⟨m,rfl⟩:∃m:Nat,n=m:=⟨n.toNat,by omega⟩
    have i1:inK .u64 (m:Int):=inU64 (by omega) (by omega)
    have hm:m<=32:=by omega
    have i2:inK .i64 ((1:Int)*2 ^ m):=by
     have:∀m,m<=32->inK .i64 ((1:Int)*2 ^ m):=by decide
     exact this m hm
    have i3:inK .i64 ((2:Int) ^ m):=by simpa using i2
    simp[h2,h3,hm,i1,i2,i3]
    try omega
   .simp[h1,h2,h3]
  .simp[h1,h2]
 .simp[h1]
theorem row_ok{N:Nat}(hN:100<N){v:Int}{n:Nat}(h:n<=32)(h0:0<=v)(h1:v<2 ^ n):outbits_Row N v n=some (rowT (digits v n),0):=by
 unfold outbits_Row
 have hf:(0:Int)<=(n:Int)/\(n:Int)<=32/\0<=v/\v<2 ^ (n:Int).toNat:=⟨by omega,by omega,h0,by simpa using h1⟩
 rw[fits_eq,decide_eq_true hf]
 have i1:inK .i64 ((n:Int)-1):=in64 (by omega) (by omega)
 have i2:(n:Int)*1<=140737488355328:=by omega
 have hit:iter (outbits_Row_b1 N v) N (0,((n:Int)-1),0,(List.replicate 0 0))=some (n,n,txt (digits v n)):=by
  refine iter_to (fun j=>(j,(n:Int)-1-j,j,txt ((digits v n).take j))) n ?_ ?_ ?_ (by omega)
  .simp[txt]
  .intro j hj
   obtain⟨k,hk⟩:∃k:Nat,(n:Int)-1-j=k:=⟨n-1-j,by omega⟩
   have hk':n-1-j=k:=by omega
   have g1:(0:Int)<=(k:Int):=by omega
   have g2:inK .u64 (k:Int):=inU64 (by omega) (by omega)
   have g3:k<=64:=by omega
   have g4:=shrP v k h0
   obtain⟨g5,g6⟩:=m2 (v/2 ^ k)
   have g7:inK .u8 (v/2 ^ k%2):=by unfold inK;omega
   have g8:inK .u8 (48+v/2 ^ k%2):=by unfold inK;omega
   have g9:inK .i64 ((k:Int)-1):=in64 (by omega) (by omega)
   have g10:j+1<=140737488355328:=by omega
   have g11:j+1<=9223372036854775807:=by omega
   simp only[outbits_Row_b1,hk,decide_eq_true g1,cond_true,Int.toNat_natCast,and1 g4,g1,g2,g3,g4,g7,g8,g9,g10,g11,Nat.mul_one,Nat.le_refl,and_self,if_true]
   refine congrArg (fun s=>some (Sum.inl s)) (Prod.ext rfl (Prod.ext ?_ (Prod.ext rfl ?_)))
   .show(k:Int)-1=_;simp only[];omega
   .show txt ((digits v n).take j)++List.take 1 (List.set (List.replicate 1 0) 0 (48+v/2 ^ k%2))=txt ((digits v n).take (j+1))
    rw[digits_step v n j hj,txt_append,hk']
    refine congrArg (fun y=>txt ((digits v n).take j)++y) ?_
    show[48+v/2 ^ k%2]=txt [decide (v/2 ^ k%2=1)]
    rcases(show v/2 ^ k%2=0\/v/2 ^ k%2=1 by omega)with e|e<;>simp[e,txt]
  .have:¬(0:Int)<=(n:Int)-1-n:=by omega
   simp only[outbits_Row_b1,decide_eq_false this,cond_false]
   rw[List.take_of_length_le (by rw[digits_length];omega)]
 have hl:(txt (digits v n)).length=n:=by rw[txt_length,digits_length]
 have i3:(n:Int)<=9223372036854775807:=by omega
 simp only[Option.isSome_some,Option.getD_some,if_true,Bool.not_true,cond_false,i1,i2,hf.1,and_self,hit,Option.bind_some,Nat.le_refl,i3,true_and]
 rw[List.take_of_length_le (by omega)]
 rfl
theorem unpB_packB(bits:List Bool):unpB (packB bits) bits.length=bits:=by
 unfold unpB
 rw[unpack_packB,Int.toNat_natCast,List.take_left' rfl]
set_option maxRecDepth 20000 in
theorem bit_ok(N:Nat)(b:Bool){bits:List Bool}(h:bits.length<=1099511627776):overspill_outbits_Writer_bit N b bits=some (bits++[b]):=by
 have i1:(bits.length:Int)<=9223372036854775800:=by omega
 have i2:(0:Int)<=(bits.length:Int):=by omega
 have e1:((bits.length:Int)/8).toNat=bits.length/8:=by omega
 have i3:(0:Int)<=((bits.length:Int)/8):=by omega
 have i4:inK .i64 ((7:Int)-((bits.length:Int)%8)):=in64 (by omega) (by omega)
 have i5:inK .u64 ((7:Int)-((bits.length:Int)%8)):=inU64 (by omega) (by omega)
 have i6:(0:Int)<=((7:Int)-((bits.length:Int)%8)):=by omega
 have i7:(((7:Int)-((bits.length:Int)%8))).toNat<=8:=by omega
 have i8:inK .u8 ((1:Int)*2 ^ (Int.toNat ((7:Int)-((bits.length:Int)%8)))):=by
  have:∀m,m<8->inK .u8 ((1:Int)*2 ^ m):=by decide
  exact this _ (by omega)
 have i9:(0:Int)<=((1:Int)*2 ^ (Int.toNat ((7:Int)-((bits.length:Int)%8)))):=by
  have:=i8;unfold inK at this;exact this.1
 have i10:inK .i64 ((bits.length:Int)+1):=in64 (by omega) (by omega)
 have hrl:=roomy_length bits
 have hpos:0<=(roomy bits).getD (bits.length/8) 0:=by
  rw[List.getD_eq_getElem?_getD,roomy_get,if_pos (Nat.le_refl _)];exact(byteAt_in _ _).1
 have K:∀m:Nat,m=bits.length/8+1->(if(b=true->(0:Int)<=(bits.length:Int))/\(b=true->(0:Int)<=((bits.length:Int)/8))/\(b=true->((bits.length:Int)/8)<(m:Int))/\(b=true->((bits.length:Int)/8).toNat<m)/\(b=true->inK .i64 ((7:Int)-((bits.length:Int)%8)))/\(b=true->inK .u64 ((7:Int)-((bits.length:Int)%8)))/\(b=true->(0:Int)<=((7:Int)-((bits.length:Int)%8)))/\(b=true->(((7:Int)-((bits.length:Int)%8))).toNat<=8)/\(b=true->inK .u8 ((1:Int)*2 ^ (Int.toNat ((7:Int)-((bits.length:Int)%8)))))/\(b=true->(0:Int)<=((roomy bits).getD ((bits.length:Int)/8).toNat 0))/\(b=true->(0:Int)<=((1:Int)*2 ^ (Int.toNat ((7:Int)-((bits.length:Int)%8)))))then
     let x1:=(bif b then((roomy bits).set ((bits.length:Int)/8).toNat (orI ((roomy bits).getD ((bits.length:Int)/8).toNat 0) ((1:Int)*2 ^ (Int.toNat ((7:Int)-((bits.length:Int)%8))))))else(roomy bits))
     if inK .i64 ((bits.length:Int)+1)then
      if packB (unpB x1 ((bits.length:Int)+1))=x1/\((unpB x1 ((bits.length:Int)+1)).length:Int)=((bits.length:Int)+1)then
       some (unpB x1 ((bits.length:Int)+1))
      else none
     else none
    else none)=some (bits++[b]):=by
  intro m hm
  have j1:((bits.length:Int)/8)<(m:Int):=by omega
  have j2:bits.length/8<m:=by omega
  have hx:(bif b then((roomy bits).set ((bits.length:Int)/8).toNat (orI ((roomy bits).getD ((bits.length:Int)/8).toNat 0) ((1:Int)*2 ^ (Int.toNat ((7:Int)-((bits.length:Int)%8))))))else(roomy bits))=packB (bits++[b]):=by
   rw[e1,orI_eq hpos i9]
   cases b
   .exact(packB_zero bits).symm
   .exact(packB_one bits).symm
  have hl:(bits.length:Int)+1=((bits++[b]).length:Int):=by simp
  have hu:unpB (packB (bits++[b])) ((bits.length:Int)+1)=bits++[b]:=by rw[hl];exact unpB_packB _
  rw[if_pos ⟨fun _=>i2,fun _=>i3,fun _=>j1,fun _=>(by rw[e1];exact j2),fun _=>i4,fun _=>i5,fun _=>i6,fun _=>i7,fun _=>i8,fun _=>(by rw[e1];exact hpos),fun _=>i9⟩]
  simp only[hx,hu,i10,if_true,true_and]
  rw[if_pos hl.symm]
 unfold overspill_outbits_Writer_bit
 rw[if_pos i1,if_pos i2]
 dsimp only[joinK]
 by_cases h8:(bits.length:Int)%8=0
 .have e2:(bits.length+7)/8+1=bits.length/8+1:=by omega
  have hr:packB bits++(((List.replicate 1 (0:Int)).set 0 0).take 1)=roomy bits:=by unfold roomy;rw[if_pos (by omega)];rfl
  rw[decide_eq_true h8,cond_true,if_pos ⟨Nat.le_refl _,by omega,by omega⟩]
  simp only[hr,true_and]
  exact K _ e2
 .have e2:(bits.length+7)/8=bits.length/8+1:=by omega
  have hr:packB bits=roomy bits:=by unfold roomy;rw[if_neg (by omega)]
  rw[decide_eq_false h8,cond_false]
  simp only[hr,true_and]
  exact K _ e2
theorem put_ok{N:Nat}(hN:100<N){v:Int}{n:Nat}{bits:List Bool}(hb:bits.length<=1000000000000)(h:n<=32)(h0:0<=v)(h1:v<2 ^ n):overspill_outbits_Writer_Put N v n bits=some (0,bits++digits v n):=by
 unfold overspill_outbits_Writer_Put
 have hf:(0:Int)<=(n:Int)/\(n:Int)<=32/\0<=v/\v<2 ^ (n:Int).toNat:=⟨by omega,by omega,h0,by simpa using h1⟩
 rw[fits_eq,decide_eq_true hf]
 have i1:inK .i64 ((n:Int)-1):=in64 (by omega) (by omega)
 have hit:iter (overspill_outbits_Writer_Put_b1 N v) N ((n:Int)-1,bits)=some (bits++digits v n):=by
  refine iter_to (fun j=>((n:Int)-1-j,bits++(digits v n).take j)) n ?_ ?_ ?_ (by omega)
  .simp
  .intro j hj
   obtain⟨k,hk⟩:∃k:Nat,(n:Int)-1-j=k:=⟨n-1-j,by omega⟩
   have hk':n-1-j=k:=by omega
   have g1:(0:Int)<=(k:Int):=by omega
   have g2:inK .u64 (k:Int):=inU64 (by omega) (by omega)
   have g3:k<=64:=by omega
   have g4:=shrP v k h0
   have g9:inK .i64 ((k:Int)-1):=in64 (by omega) (by omega)
   have hl:(bits++(digits v n).take j).length<=1099511627776:=by rw[List.length_append,List.length_take,digits_length];omega
   simp only[overspill_outbits_Writer_Put_b1,hk,decide_eq_true g1,cond_true,Int.toNat_natCast,and1 g4,bit_ok N _ hl,g1,g2,g3,g4,g9,Option.isSome_some,Option.getD_some,and_self,if_true]
   refine congrArg (fun s=>some (Sum.inl s)) (Prod.ext ?_ ?_)
   .show(k:Int)-1=_;simp only[];omega
   .show bits++(digits v n).take j++[decide (v/2 ^ k%2=1)]=bits++(digits v n).take (j+1)
    rw[digits_step v n j hj,hk',List.append_assoc]
  .have:¬(0:Int)<=(n:Int)-1-n:=by omega
   simp only[overspill_outbits_Writer_Put_b1,decide_eq_false this,cond_false]
   rw[List.take_of_length_le (by rw[digits_length];omega)]
 simp only[Option.isSome_some,Option.getD_some,implies_true,if_true,Bool.not_true,cond_false,i1,hit,Option.bind_some]
theorem oplain_ok{N:Nat}{s:ByteArray}(hN:s.size<N)(hs:s.size<4294967296):outbits_plain N s=some (plainL (bl s)):=by
 have big:(s.size:Int)<=9223372036854775807:=by omega
 have st:∀j,j<s.size->(byteI s j=48\/byteI s j=49)->outbits_plain_b1 N s j=some (.inl (j+1)):=by
  intro j hj hb
  obtain⟨d1,d2⟩:=decode_plain hj (show byteI s j<128 by omega)
  rcases hb with hb|hb<;>simp[outbits_plain_b1,big,hj,d1,d2,hb]
 unfold outbits_plain
 rcases first_or (fun j=>¬(byteI s j=48\/byteI s j=49)) s.size with h|⟨k,h1,h2,h3⟩
 .have hp:plainL (bl s)=true:=by
   have:∀j,j<=s.size->plainL ((bl s).take j)=true:=by
    intro j
    induction j with
    | zero=>intro _;simp[plainL]
    | succ j ih=>
     intro hj
     rw[plain_step (by omega),ih (by omega)]
     have:=Classical.not_not.mp (h j (by omega))
     rcases this with e|e<;>simp[e]
   have h':=this s.size (Nat.le_refl _)
   rwa [plain_all (Nat.le_refl _)]at h'
  have hit:iter (outbits_plain_b1 N s) N 0=some (.inr ()):=iter_to (fun i=>i) s.size rfl (fun i hi=>st i hi (Classical.not_not.mp (h i hi))) (by simp[outbits_plain_b1,big]) (by omega)
  rw[hit,hp];rfl
 .have hit:iter (outbits_plain_b1 N s) N 0=some (.inl ()):=by
   refine iter_to (fun i=>i) k rfl (fun i hi=>st i (by omega) (Classical.not_not.mp (h3 i hi))) ?_ (by omega)
   have n1:byteI s k≠48:=fun e=>h2 (.inl e)
   have n2:byteI s k≠49:=fun e=>h2 (.inr e)
   rcases rune_cases s k with r|r|r
   .exact absurd h1 r
   .exact absurd r.1 h2
   .simp[outbits_plain_b1,big,h1,r.2.2.1,r.2.2.2]
  rw[hit,plain_bad h1 (fun e=>h2 (.inl e)) (fun e=>h2 (.inr e))];rfl
theorem add_ok{N:Nat}{s:ByteArray}{bits:List Bool}(hN:s.size<N)(hs:s.size<=1000000000)(hb:bits.length<=1000000000000)(hp:plainL (bl s)=true):overspill_outbits_Writer_Add N s bits=some (0,bits++bitsT (bl s)):=by
 have big:(s.size:Int)<=9223372036854775807:=by omega
 have hl:(bitsT (bl s)).length=s.size:=by rw[bitsT_length,bl_length]
 unfold overspill_outbits_Writer_Add
 rw[oplain_ok hN (by omega),hp]
 have hit:iter (overspill_outbits_Writer_Add_b1 N s) N (bits,0)=some (bits++bitsT (bl s)):=by
  refine iter_to (fun j=>(bits++(bitsT (bl s)).take j,j)) s.size (by simp) ?_ ?_ hN
  .intro j hj
   have hbj:=plain_at hp hj
   obtain⟨d1,d2⟩:=decode_plain hj (show byteI s j<128 by omega)
   have hlen:(bits++(bitsT (bl s)).take j).length<=1099511627776:=by rw[List.length_append,List.length_take];omega
   simp only[overspill_outbits_Writer_Add_b1,big,if_true,decide_eq_true hj,cond_true,d1,d2,bit_ok N _ hlen,Option.isSome_some,Option.getD_some]
   refine congrArg (fun s=>some (Sum.inl s)) (Prod.ext ?_ rfl)
   show bits++(bitsT (bl s)).take j++[decide (byteI s j=49)]=_
   rw[List.append_assoc,<-bits_step hj]
  .simp only[overspill_outbits_Writer_Add_b1,big,if_true,decide_eq_false (Nat.lt_irrefl _),cond_false]
   rw[List.take_of_length_le (by omega)]
 simp only[Option.isSome_some,implies_true,if_true,Option.getD_some,Bool.not_true,cond_false,hit,Option.bind_some]
/-- A loop that looks whether something holds of all numbers below one. -/
theorem iter_all {body:Int->Option (Int⊕(Unit⊕Unit))} (n N:Nat) (P:Nat->Bool) (hs:∀i,i<n->body (i:Int)=some (bif P i then .inl ((i:Int)+1)else .inr (.inl ()))) (he:body (n:Int)=some (.inr (.inr ()))) (hN:n<N):
  iter body N 0=some (bif(List.range n).all P then .inr ()else .inl ()):=by
 rcases first_or (fun j=>P j=false) n with h|⟨k,h1,h2,h3⟩
 .have hP:∀i,i<n->P i=true:=fun i hi=>by simpa using h i hi
  have:(List.range n).all P=true:=List.all_eq_true.2 fun i hi=>hP i (List.mem_range.1 hi)
  rw[this]
  exact iter_to (fun i=>(i:Int)) n rfl (fun i hi=>by rw[hs i hi,hP i hi];rfl) he hN
 .have:(List.range n).all P=false:=by
   cases hh:(List.range n).all P with
   | false=>rfl
   | true=>rw[List.all_eq_true.1 hh k (List.mem_range.2 h1)]at h2;cases h2
  rw[this]
  exact iter_to (fun i=>(i:Int)) k rfl (fun i hi=>by rw[hs i (by omega),show P i=true by simpa using h3 i hi];rfl) (by rw[hs k h1,h2];rfl) (by omega)
abbrev Ev:=Bool×(Int×Int)
def rgt(r v:Int):Prop:=0<=r/\r<=63/\v≠0 /\ -127<=v/\v<=127
instance (r v:Int):Decidable (rgt r v):=by unfold rgt;infer_instance
def gd(la:Bool)(r v p:Int)(last:Bool):Prop:=rgt r v/\la=last/\p+r<=63
instance (la:Bool) (r v p:Int) (last:Bool):Decidable (gd la r v p last):=by unfold gd;infer_instance
def ev(l:List Ev)(i:Nat):Ev:=l.getD i (false,((0:Int),(0:Int)))
def posn(f:Int)(l:List Ev):Nat->Int
 | 0=>f
 | i+1=>posn f l i+(ev l i).2.1+1
def gdAt(f:Int)(l:List Ev)(i:Nat):Prop:=gd (ev l i).1 (ev l i).2.1 (ev l i).2.2 (posn f l i) (decide (i+1=l.length))
instance (f:Int) (l:List Ev) (i:Nat):Decidable (gdAt f l i):=by unfold gdAt;infer_instance
theorem posn_in{f:Int}{l:List Ev}(hf:0<=f/\f<=1):∀i,(∀j,j<i->gdAt f l j)->0<=posn f l i/\posn f l i<=64:=by
 intro i
 induction i with
 | zero=>intro _;simp only[posn];omega
 | succ i ih=>
  intro h
  obtain⟨h1,h2⟩:=ih fun j hj=>h j (by omega)
  obtain⟨⟨h3,h4,_⟩,_,h5⟩:=h i (by omega)
  simp only[posn]
  omega
def okE(f:Int)(l:List Ev):Bool:=(List.range l.length).all fun i=>decide (gdAt f l i)
theorem okE_iff{f:Int}{l:List Ev}:okE f l=true↔∀i,i<l.length->gdAt f l i:=by
 unfold okE
 simp only[List.all_eq_true,List.mem_range,decide_eq_true_eq]
def lvs(f:Int)(l:List Ev):Nat->List Int
 | 0=>List.replicate 64 0
 | i+1=>(lvs f l i).set (posn f l i+(ev l i).2.1).toNat (ev l i).2.2
def mayB(b:Bool)(dc:Int)(l:List Ev):Bool:=okE (bif b then 1 else 0) l&&(bif b then decide (1<=dc/\dc<=254)else decide (dc=0))
theorem right_eq(N:Nat)(l:Bool)(r v:Int):tcoef_Right N l r v=some (decide (rgt r v)):=by
 unfold tcoef_Right rgt
 by_cases h1:0<=r<;>by_cases h2:r<=63<;>by_cases h3:v=0<;>by_cases h4 : -127<=v<;>by_cases h5:v<=127<;>simp[h1,h2,h3,h4,h5]
theorem rright_eq(N:Nat)(l:Bool)(r v:Int):ref09_Right N l r v=some (decide (rgt r v)):=by
 unfold ref09_Right rgt
 by_cases h1:0<=r<;>by_cases h2:r<=63<;>by_cases h3:v=0<;>by_cases h4 : -127<=v<;>by_cases h5:v<=127<;>simp[h1,h2,h3,h4,h5]
theorem lvb{N:Nat}{l:List Ev}{i:Nat}{p:Int}{xs:List Int}{la:Bool}{r v:Int}(hi:i<l.length)(hl:l.length<4294967296) (hE:l.getD i (false,((0:Int),(0:Int)))=(la,r,v)) (hp:0<=p) (hp':p<=64):
  runs_Levels_b1 N l (p,(i:Int),xs)=if gd la r v p (decide (i+1=l.length))then some (.inl (p+r+1,(i:Int)+1,xs.set (p+r).toNat v))else some (.inr (.inl ())):=by
 have g1:(i:Int)<(l.length:Int):=by omega
 have g2:=inS (i:=i) (by omega)
 have g3:inK .i64 ((l.length:Int)-1):=in64 (by omega) (by omega)
 have hla:decide ((i:Int)=(l.length:Int)-1)=decide (i+1=l.length):=decide_eq_decide.2 (by omega)
 unfold runs_Levels_b1 gd
 simp only[decide_eq_true g1,cond_true,Int.natCast_nonneg,g1,and_self,if_true,Int.toNat_natCast,hE,right_eq,Option.getD_some,Option.isSome_some,hla,true_and]
 generalize decide (i+1=l.length)=last
 by_cases hr:rgt r v
 .have hrr:=hr
  obtain⟨h1,h2,h3,h4,h5⟩:=hr
  have i1:inK .i64 (p+r):=in64 (by omega) (by omega)
  have i2:inK .i64 (p+r+1):=in64 (by omega) (by omega)
  by_cases hq:la=last
  .subst hq
   by_cases h6:p+r<=63
   .have h7:¬(64:Int)<=p+r:=by omega
    have h8:0<=p+r:=by omega
    have h9:p+r<64:=by omega
    have h10:(p+r).toNat<64:=by omega
    simp[hrr,g3,i1,i2,h6,h7,h8,h9,h10,g2]
   .have h7:(64:Int)<=p+r:=by omega
    simp[hrr,g3,i1,i2,h6,h7]
  .have:(la==last)=false:=by simpa using hq
   simp[hrr,g3,i1,hq,this]
 .simp[hr]
theorem levels_ok{N:Nat}{f:Int}{l:List Ev}(hf:f=0\/f=1)(hl:l.length<4294967296)(hN:l.length<N):runs_Levels N l f=some (if okE f l then lvs f l l.length else List.replicate 64 0,if okE f l then 0 else 7):=by
 have st:∀i,i<l.length->(∀j,j<i->gdAt f l j)->runs_Levels_b1 N l (posn f l i,(i:Int),lvs f l i)=if gdAt f l i then some (.inl (posn f l (i+1),((i+1:Nat):Int),lvs f l (i+1)))else some (.inr (.inl ())):=by
  intro i hi hg
  obtain⟨h1,h2⟩:=posn_in (f:=f) (l:=l) (by omega) i hg
  exact lvb hi hl (show ev l i=((ev l i).1,(ev l i).2.1,(ev l i).2.2) from rfl) h1 h2
 have h0:(bif(bif decide (f≠0)then decide (f≠1)else false)then some ((List.replicate 64 (0:Int)),(1:Int))else(iter (runs_Levels_b1 N l) N (f,0,(List.replicate 64 0))).bind fun w1=>(Sum.elim (fun v1=>some ((List.replicate 64 (0:Int)),(7:Int))) (fun v2=>some (v2,0))) w1)=(iter (runs_Levels_b1 N l) N (f,0,(List.replicate 64 0))).bind fun w1=>(Sum.elim (fun v1=>some ((List.replicate 64 (0:Int)),(7:Int))) (fun v2=>some (v2,0))) w1:=by
  rcases hf with rfl|rfl<;>rfl
 unfold runs_Levels
 rw[h0]
 rcases first_or (fun j=>¬gdAt f l j) l.length with h|⟨k,h1,h2,h3⟩
 .have hg:∀i,i<l.length->gdAt f l i:=fun i hi=>Classical.not_not.mp (h i hi)
  have hit:iter (runs_Levels_b1 N l) N (f,0,(List.replicate 64 0))=some (.inr (lvs f l l.length)):=by
   refine iter_to (fun i=>(posn f l i,(i:Int),lvs f l i)) l.length rfl (fun i hi => ?_) ?_ hN
   .rw[st i hi fun j hj=>hg j (by omega),if_pos (hg i hi)]
   .simp[runs_Levels_b1]
  rw[hit,okE_iff.2 hg]
  rfl
 .have hit:iter (runs_Levels_b1 N l) N (f,0,(List.replicate 64 0))=some (.inl ()):=by
   refine iter_to (fun i=>(posn f l i,(i:Int),lvs f l i)) k rfl (fun i hi => ?_) ?_ (by omega)
   .rw[st i (by omega) fun j hj=>Classical.not_not.mp (h3 j (by omega)),if_pos (Classical.not_not.mp (h3 i hi))]
   .rw[st k h1 fun j hj=>Classical.not_not.mp (h3 j hj),if_neg h2]
  have hn:okE f l=false:=by
   cases hh:okE f l with
   | false=>rfl
   | true=>exact absurd (okE_iff.1 hh k h1) h2
  rw[hit,hn]
  rfl
theorem rlvb{N:Nat}{l:List Ev}{i:Nat}{p:Int}{xs:List Int}{la:Bool}{r v:Int}(hi:i<l.length)(hl:l.length<4294967296) (hE:l.getD i (false,((0:Int),(0:Int)))=(la,r,v)) (hp:0<=p) (hp':p<=64):
  ref10_Levels_b1 N l (p-1,(i:Int),xs)=if gd la r v p (decide (i+1=l.length))then some (.inl (p+r+1-1,(i:Int)+1,xs.set (p+r).toNat v))else some (.inr (.inl ())):=by
 have g1:(i:Int)<(l.length:Int):=by omega
 have g2:=inS (i:=i) (by omega)
 have hla:decide ((i:Int)+1=(l.length:Int))=decide (i+1=l.length):=decide_eq_decide.2 (by omega)
 unfold ref10_Levels_b1 gd
 simp only[decide_eq_true g1,cond_true,Int.natCast_nonneg,g1,and_self,if_true,Int.toNat_natCast,hE,rright_eq,Option.getD_some,Option.isSome_some,hla,true_and,g2,implies_true]
 generalize decide (i+1=l.length)=last
 by_cases hr:rgt r v
 .have hrr:=hr
  obtain⟨h1,h2,h3,h4,h5⟩:=hr
  have e1:p-1+r+1=p+r:=by omega
  have e2:p+r+1-1=p+r:=by omega
  have i1:inK .i64 (p-1+r):=in64 (by omega) (by omega)
  have i2:inK .i64 (p+r):=in64 (by omega) (by omega)
  by_cases hq:la=last
  .subst hq
   by_cases h6:p+r<=63
   .have h7:¬(63:Int)<p+r:=by omega
    have h8:0<=p+r:=by omega
    have h9:p+r<64:=by omega
    have h10:(p+r).toNat<64:=by omega
    simp[hrr,e1,e2,i1,i2,h6,h7,h8,h9,h10]
   .have h7:(63:Int)<p+r:=by omega
    simp[hrr,e1,i1,i2,h6,h7]
  .have:(la==last)=false:=by simpa using hq
   simp[hrr,hq,this]
 .simp[hr]
theorem rlevels_ok{N:Nat}{f:Int}{l:List Ev}(hf:f=0\/f=1)(hl:l.length<4294967296)(hN:l.length<N):ref10_Levels N l f=some (if okE f l then lvs f l l.length else List.replicate 64 0,if okE f l then 0 else 7):=by
 have st:∀i,i<l.length->(∀j,j<i->gdAt f l j)->ref10_Levels_b1 N l (posn f l i-1,(i:Int),lvs f l i)=if gdAt f l i then some (.inl (posn f l (i+1)-1,((i+1:Nat):Int),lvs f l (i+1)))else some (.inr (.inl ())):=by
  intro i hi hg
  obtain⟨h1,h2⟩:=posn_in (f:=f) (l:=l) (by omega) i hg
  exact rlvb hi hl (show ev l i=((ev l i).1,(ev l i).2.1,(ev l i).2.2) from rfl) h1 h2
 have i1:inK .i64 (f-1):=in64 (by omega) (by omega)
 have h0:(bif(bif decide (f<0)then true else decide ((1:Int)<f))then true else false)=false:=by
  rcases hf with rfl|rfl<;>rfl
 have h0':(bif decide (f<0)then true else decide ((1:Int)<f))=false:=by
  rcases hf with rfl|rfl<;>rfl
 unfold ref10_Levels
 rw[h0',cond_false,if_pos i1]
 rcases first_or (fun j=>¬gdAt f l j) l.length with h|⟨k,h1,h2,h3⟩
 .have hg:∀i,i<l.length->gdAt f l i:=fun i hi=>Classical.not_not.mp (h i hi)
  have hit:iter (ref10_Levels_b1 N l) N (f-1,0,(List.replicate 64 0))=some (.inr (lvs f l l.length)):=by
   refine iter_to (fun i=>(posn f l i-1,(i:Int),lvs f l i)) l.length rfl (fun i hi => ?_) ?_ hN
   .rw[st i hi fun j hj=>hg j (by omega),if_pos (hg i hi)]
   .simp[ref10_Levels_b1]
  rw[hit,okE_iff.2 hg]
  rfl
 .have hit:iter (ref10_Levels_b1 N l) N (f-1,0,(List.replicate 64 0))=some (.inl ()):=by
   refine iter_to (fun i=>(posn f l i-1,(i:Int),lvs f l i)) k rfl (fun i hi => ?_) ?_ (by omega)
   .rw[st i (by omega) fun j hj=>Classical.not_not.mp (h3 j (by omega)),if_pos (Classical.not_not.mp (h3 i hi))]
   .rw[st k h1 fun j hj=>Classical.not_not.mp (h3 j hj),if_neg h2]
  have hn:okE f l=false:=by
   cases hh:okE f l with
   | false=>rfl
   | true=>exact absurd (okE_iff.1 hh k h1) h2
  rw[hit,hn]
  rfl
theorem may_ok{N:Nat}{b:Bool}{dc:Int}{l:List Ev}(hl:l.length<4294967296)(hN:l.length<N):blocks_may N b dc l=some (mayB b dc l):=by
 unfold blocks_may mayB blocks_from
 cases b
 .have h:=levels_ok (N:=N) (f:=0) (l:=l) (.inl rfl) hl hN
  simp only[cond_false,Option.getD_some,Option.isSome_some,h]
  by_cases h0:dc=0
  .subst h0
   cases okE 0 l<;>rfl
  .simp[h0]
 .have h:=levels_ok (N:=N) (f:=1) (l:=l) (.inr rfl) hl hN
  simp only[cond_true,Option.getD_some,Option.isSome_some,h]
  by_cases h1:1<=dc
  .by_cases h2:dc<=254
   .have h3:dc≠0:=by omega
    have h4:¬dc<0:=by omega
    have h5:¬(255:Int)<=dc:=by omega
    cases okE 1 l<;>simp[h1,h2,h3,h4,h5]
   .have h3:dc≠0:=by omega
    have h4:¬dc<0:=by omega
    have h5:(255:Int)<=dc:=by omega
    simp[h2,h3,h4,h5]
  .by_cases h2:dc=0
   .subst h2;simp
   .have h4:dc<0:=by omega
    simp[h1,h2,h4]
theorem rmay_ok{N:Nat}{b:Bool}{dc:Int}{l:List Ev}(hl:l.length<4294967296)(hN:l.length<N):ref15_May N b dc l=some (mayB b dc l):=by
 unfold ref15_May mayB ref15_from
 cases b
 .have h:=rlevels_ok (N:=N) (f:=0) (l:=l) (.inl rfl) hl hN
  simp only[cond_false,Option.getD_some,Option.isSome_some,h,and_self,if_true]
  cases okE 0 l<;>simp
 .have h:=rlevels_ok (N:=N) (f:=1) (l:=l) (.inr rfl) hl hN
  simp only[cond_true,Option.getD_some,Option.isSome_some,h,and_self,if_true]
  cases okE 1 l<;>simp
theorem digit_eq(N:Nat)(b:Bool):∃d,tcoef_digit N b=some d/\d.size=1/\d=(bif b then⟨#[49]⟩else⟨#[48]⟩):=by cases b<;>exact⟨_,rfl,rfl,rfl⟩
theorem c37(M:Nat):outbits_Row (M+200) 3 7=some (⟨#[48,48,48,48,48,49,49]⟩,0):=by kernel_rfl
def chp(N:Nat)(l:Bool)(r:Nat):Bool:=match tcoef_many N l r with
 | some n=>(List.range n.toNat).all fun i=>match tcoef_place N l r ((i:Int)+1)with
  | some a=>decide (0<=a)&&decide (a<102)
  | none=>false
 | none=>false
theorem ckp(M:Nat):((List.range 64).all fun r=>chp (M+200) false r&&chp (M+200) true r)=true:=by kernel_rfl
theorem chp_at{N:Nat}{l:Bool}{r:Nat}(h:chp N l r=true):∃n,tcoef_many N l r=some n/\∀i:Nat,(i:Int)<n->∃a:Nat,tcoef_place N l r ((i:Int)+1)=some (a:Int)/\a<102:=by
 unfold chp at h
 split at h
 .rename_i n h1
  simp only[List.all_eq_true,List.mem_range]at h
  refine⟨n,h1,fun i hi => ?_⟩
  have:=h i (by omega)
  split at this
  .rename_i a ha
   simp only[Bool.and_eq_true,decide_eq_true_eq]at this
   exact⟨a.toNat,by rw[ha,Int.toNat_of_nonneg this.1],by omega⟩
  .cases this
 .cases h
theorem lens_tab:∀an,an<102->0<=lensL.getD an 0/\2<=lensL.getD an 0/\lensL.getD an 0<=12/\0<=codesL.getD an 0/\codesL.getD an 0<2 ^ (lensL.getD an 0).toNat:=by decide +kernel
theorem row_bits{M:Nat}{l:Bool}{r v:Int}(h:rgt r v):∃B,tcoef_Row (M+200) l r v=some (rowT B,true)/\
  3<=B.length/\B.length<=22:=by
 obtain⟨h1,h2,h3,h4,h5⟩:=id h
 obtain⟨rn,rfl⟩:∃rn:Nat,r=rn:=⟨r.toNat,by omega⟩
 have hrn:rn<64:=by omega
 have hc:chp (M+200) l rn=true:=by
  have:=List.all_eq_true.1 (ckp M) rn (List.mem_range.2 hrn)
  simp only[Bool.and_eq_true]at this
  cases l
  .exact this.1
  .exact this.2
 obtain⟨n,g2,g4⟩:=chp_at hc
 have i1:inK .i64 (-v):=in64 (by omega) (by omega)
 obtain⟨d,hd,hds,hdv⟩:=digit_eq (M+200) (decide (v<0))
 have hdr:d=rowT [decide (v<0)]:=by rw[hdv];cases decide (v<0)<;>rfl
 by_cases hn:max v (-v)<=n
 .obtain⟨i,hi⟩:∃i:Nat,max v (-v)=(i:Int)+1:=⟨(max v (-v)-1).toNat,by omega⟩
  obtain⟨an,k1,k3⟩:=g4 i (by omega)
  obtain⟨t1,t2',t2,t3,t4⟩:=lens_tab an k3
  have k4:=row_ok (N:=M+200) (by omega) (n:=(lensL.getD an 0).toNat) (by omega) t3 t4
  rw[Int.toNat_of_nonneg t1]at k4
  obtain⟨x,hx⟩:∃x,x=rowT (digits (codesL.getD an 0) (lensL.getD an 0).toNat):=⟨_,rfl⟩
  rw[<-hx]at k4
  have hxs:x.size=(lensL.getD an 0).toNat:=by rw[hx,rowT_size,digits_length]
  have k2:(0:Int)<=(an:Int):=by omega
  refine⟨digits (codesL.getD an 0) (lensL.getD an 0).toNat++[decide (v<0)],?_,by rw[List.length_append,digits_length];simp only[List.length_cons,List.length_nil];omega,by rw[List.length_append,digits_length];simp only[List.length_cons,List.length_nil];omega⟩
  have hsz:(x.size:Int)+(d.size:Int)<=9223372036854775807:=by omega
  have k8:an<102:=by omega
  have k9:(an:Int)<102:=by omega
  unfold tcoef_Row
  rw[right_eq,decide_eq_true h,hi,k1]
  simp[i1,k2,k3,k4,k8,k9,hd,hsz, -List.getD_eq_getElem?_getD]
  rw[hx,hdr,rowT_append]
 .have hp:tcoef_place (M+200) l rn (max v (-v))=some (-1):=by
   unfold tcoef_place
   rw[g2]
   have:n<max v (-v):=by omega
   simp[this]
  refine⟨digits 3 7++(l::(digits rn 6++digits ((v+256)%256) 8)),?_,by simp[digits_length],by simp[digits_length]⟩
  have p1:=row_ok (N:=M+200) (by omega) (v:=(rn:Int)) (n:=6) (by omega) (by omega) (by omega)
  have q1:=row_ok (N:=M+200) (by omega) (v:=(v+256)%256) (n:=8) (by omega) (by omega) (by omega)
  obtain⟨b,hb,hbs,hbv⟩:=digit_eq (M+200) l
  have hbr:b=rowT [l]:=by rw[hbv];cases l<;>rfl
  have s7:(⟨#[48,48,48,48,48,49,49]⟩:ByteArray)=rowT (digits 3 7):=rfl
  have i2:inK .i64 (v+256):=in64 (by omega) (by omega)
  have i3:0<=v+256:=by omega
  have p1':outbits_Row (M+200) (rn:Int) 6=some (rowT (digits rn 6),0):=p1
  have q1':outbits_Row (M+200) ((v+256)%256) 8=some (rowT (digits ((v+256)%256) 8),0):=q1
  unfold tcoef_Row
  rw[right_eq,decide_eq_true h,hp,c37,p1',q1',hb,hbr,s7]
  have z1:(((rowT (digits 3 7)).size:Int))+((rowT [l]).size:Int)<=9223372036854775807:=by rw[rowT_size,rowT_size,digits_length];simp
  have z2:((rowT (digits 3 7)++rowT [l]).size:Int)+((rowT (digits rn 6)).size:Int)<=9223372036854775807:=by rw[rowT_append,rowT_size,rowT_size,List.length_append,digits_length,digits_length];simp
  have z3:((rowT (digits 3 7)++rowT [l]++rowT (digits rn 6)).size:Int)+((rowT (digits ((v+256)%256) 8)).size:Int)<=9223372036854775807:=by rw[rowT_append,rowT_append,rowT_size,rowT_size,List.length_append,List.length_append,digits_length,digits_length,digits_length];simp
  simp only[Option.getD_some,Option.isSome_some,if_true,Bool.not_true,cond_false,i1,i2,i3,and_self,show decide ((0:Int) <= -1)=false from rfl,z1,z2,z3]
  rw[rowT_append,rowT_append,rowT_append]
  simp
def RB(M:Nat)(e:Ev):List Bool:=bitsT (bl ((tcoef_Row (M+200) e.1 e.2.1 e.2.2).getD default).1)
theorem rb_ok{M:Nat}{e:Ev}(h:rgt e.2.1 e.2.2):tcoef_Row (M+200) e.1 e.2.1 e.2.2=some (rowT (RB M e),true)/\3<=(RB M e).length/\(RB M e).length<=22:=by
 obtain⟨B,hrow,h1,h2⟩:=row_bits (M:=M) (l:=e.1) h
 have hB:RB M e=B:=by
  unfold RB
  rw[hrow,Option.getD_some,bits_rowT]
 rw[hB,hrow]
 exact⟨rfl,h1,h2⟩
def cb(M:Nat)(l:List Ev):Nat->List Bool
 | 0=>[]
 | i+1=>cb M l i++RB M (ev l i)
theorem cb_len{M:Nat}{l:List Ev}:∀i,(∀j,j<i->rgt (ev l j).2.1 (ev l j).2.2)->(cb M l i).length<=22*i:=by
 intro i
 induction i with
 | zero=>intro _;simp[cb]
 | succ i ih=>
  intro h
  have h1:=ih fun j hj=>h j (by omega)
  have h2:=(rb_ok (M:=M) (h i (by omega))).2.2
  simp only[cb,List.length_append]
  omega
def hd(b:Bool)(dc:Int):List Bool:=bif b then digits (bif decide (dc=128)then 255 else dc) 8 else[]
theorem hd_len(b:Bool)(dc:Int):(hd b dc).length<=8:=by unfold hd;cases b<;>simp[digits_length]
theorem allR{b:Bool}{dc:Int}{l:List Ev}(h:mayB b dc l=true):(∀i,i<l.length->rgt (ev l i).2.1 (ev l i).2.2)/\(b=true->1<=dc/\dc<=254):=by
 unfold mayB at h
 simp only[Bool.and_eq_true]at h
 refine⟨fun i hi=>(okE_iff.1 h.1 i hi).1,fun hb => ?_⟩
 subst hb
 simpa using h.2
theorem dcs{dc:Int}(h:1<=dc/\dc<=254):0<=(bif decide (dc=128)then 255 else dc)/\(bif decide (dc=128)then 255 else dc)<2 ^ 8:=by
 by_cases e:dc=128
 .rw[decide_eq_true e];show(0:Int)<=255/\(255:Int)<2 ^ 8;decide
 .rw[decide_eq_false e];show 0<=dc/\dc<2 ^ 8;omega
theorem bput_ok{M:Nat}{b:Bool}{dc:Int}{l:List Ev}{bits:List Bool}(hl:l.length<=100)(hb:bits.length<=1000000):blocks_Put (M+200) b dc l bits=some (bif mayB b dc l then(0,bits++hd b dc++cb M l l.length)else(7,bits)):=by
 unfold blocks_Put
 rw[may_ok (by omega) (by omega)]
 cases hm:mayB b dc l with
 | false=>rfl
 | true=>
  obtain⟨hr,hdc⟩:=allR hm
  have hput:b=true->overspill_outbits_Writer_Put (M+200) (bif decide (dc=128)then 255 else dc) 8 bits=some (0,bits++digits (bif decide (dc=128)then 255 else dc) 8):=fun h=>by
   obtain⟨d1,d2⟩:=dcs (hdc h)
   exact put_ok (N:=M+200) (n:=8) (by omega) (by omega) (by decide) d1 d2
  have hst:(bif b then((overspill_outbits_Writer_Put (M+200) (bif decide (dc=128)then 255 else dc) 8 bits).getD default).2 else bits)=bits++hd b dc:=by
   unfold hd
   cases b
   .simp
   .rw[hput rfl];rfl
  have hsome:(b=true->(overspill_outbits_Writer_Put (M+200) (bif decide (dc=128)then 255 else dc) 8 bits).isSome=true):=fun h=>by rw[hput h];rfl
  have hhl:=hd_len b dc
  have hit:iter (blocks_Put_b1 (M+200) l) (M+200) (0,bits++hd b dc)=some (bits++hd b dc++cb M l l.length):=by
   refine iter_to (fun i=>((i:Int),bits++hd b dc++cb M l i)) l.length (by simp[cb]) ?_ ?_ (by omega)
   .intro i hi
    have g1:(i:Int)<(l.length:Int):=by omega
    have g2:=inS (i:=i) (by omega)
    obtain⟨r1,_,r4⟩:=rb_ok (M:=M) (hr i hi)
    have hcl:=cb_len (M:=M) (l:=l) i fun j hj=>hr j (by omega)
    have hadd:=add_ok (N:=M+200) (s:=rowT (RB M (ev l i))) (bits:=bits++hd b dc++cb M l i) (by rw[rowT_size];omega) (by rw[rowT_size];omega) (by rw[List.length_append,List.length_append];omega) (plain_rowT _)
    rw[bits_rowT]at hadd
    have hE:l.getD i (false,((0:Int),(0:Int)))=ev l i:=rfl
    simp only[blocks_Put_b1,decide_eq_true g1,cond_true,Int.natCast_nonneg,g1,and_self,if_true,Int.toNat_natCast,hE,r1,Option.getD_some,Option.isSome_some,hadd,g2]
    refine congrArg (fun s=>some (Sum.inl s)) (Prod.ext (Int.natCast_succ i).symm ?_)
    show bits++hd b dc++cb M l i++RB M (ev l i)=bits++hd b dc++cb M l (i+1)
    simp only[cb,List.append_assoc]
   .simp[blocks_Put_b1]
  simp only[Option.isSome_some,Option.getD_some,if_true,Bool.not_true,cond_false,cond_true,hst,hit,Option.bind_some]
  rw[if_pos hsome]
abbrev Evs:=List (List Ev)
def intraB(k:Int):Bool:=bif decide (k=3)then true else decide (k=4)
def may6(k:Int)(dc:List Int)(evs:Evs):Bool:=(List.range 6).all fun i=>mayB (intraB k) (dc.getD i 0) (evs.getD i [])
def fewP(evs:Evs):Prop:=∀i,i<6->(evs.getD i []).length<=100
def bareP(k s:Int)(mv dc:List Int)(evs:Evs):Prop:=k=0/\s=0/\mv=[0,0]/\dc=[0,0,0,0,0,0]/\∀i,i<6->evs.getD i []=[]
instance (k s:Int) (mv dc:List Int) (evs:Evs):Decidable (bareP k s mv dc evs):=by unfold bareP;infer_instance
def stB(s:Int):Bool:=decide (s = -1)||(decide (s = -2)||(decide (s=1)||decide (s=2)))
def steppedB(k:Int):Bool:=bif decide (k=1)then true else decide (k=4)
def vecB(k:Int)(mv:List Int):Bool:=bif intraB k then decide (mv=[0,0])else decide (-32<=mv.getD 0 0/\mv.getD 0 0<=31)&&decide (-32<=mv.getD 1 0/\mv.getD 1 0<=31)
def stepB(k s:Int):Bool:=bif steppedB k then stB s else decide (s=0)
def kindB(inter:Bool)(k:Int):Bool:=intraB k||(inter&&(decide (k=0)||decide (k=1)))
def rightB(inter:Bool)(st:Int)(sk:Bool)(k s:Int)(mv dc:List Int)(evs:Evs):Bool:=
 decide (0<=st/\st<=64)&&bif sk then inter&&decide (bareP k s mv dc evs)else kindB inter k&&(stepB k s&&(vecB k mv&&may6 k dc evs))
theorem len2{xs:List Int}(h:xs.length=2):∃a b,xs=[a,b]:=by
 match xs,h with
 | [a,b],_=>exact⟨a,b,rfl⟩
theorem len6{xs:List Int}(h:xs.length=6):∃a b c d e f,xs=[a,b,c,d,e,f]:=by
 match xs,h with
 | [a,b,c,d,e,f],_=>exact⟨a,b,c,d,e,f,rfl⟩
theorem in5{i:Nat}(h:i<6):(0:Int)<=(i:Int)/\(i:Int)<6/\((i:Int)).toNat<6:=⟨by omega,by omega,by omega⟩
theorem steps_eq(N:Nat)(s:Int):∃r,steps_Row N s=some (r,stB s):=by
 unfold steps_Row stB
 by_cases h1:s = -1
 .exact⟨⟨#[48,48]⟩,by subst h1;rfl⟩
 .by_cases h2:s = -2
  .exact⟨⟨#[48,49]⟩,by subst h2;rfl⟩
  .by_cases h3:s=1
   .exact⟨⟨#[49,48]⟩,by subst h3;rfl⟩
   .by_cases h4:s=2
    .exact⟨⟨#[49,49]⟩,by subst h4;rfl⟩
    .exact⟨⟨#[]⟩,by simp[h1,h2,h3,h4]⟩
theorem wrap_eq(N:Nat)(a:Int):∃w,whole_Wrap N a=some w/\decide (w=a)=decide (-32<=a/\a<=31):=by
 unfold whole_Wrap
 have h64:=Int.tmod_lt_of_pos a (show(0:Int)<64 by decide)
 have hl64:=Int.lt_tmod_of_pos a (show(0:Int)<64 by decide)
 have hd:(64:Int) ∣ a-a.tmod 64:=⟨a.tdiv 64,by have:=Int.mul_tdiv_add_tmod a 64;omega⟩
 obtain⟨k,hk⟩:=hd
 generalize a.tmod 64=m at *
 by_cases h1:m < -32
 .have i1:inK .i64 (m+64):=in64 (by omega) (by omega)
  refine⟨m+64,by simp[h1,i1],decide_eq_decide.2 ?_⟩
  omega
 .by_cases h2:32<=m
  .have i1:inK .i64 (m-64):=in64 (by omega) (by omega)
   refine⟨m-64,by simp[h1,h2,i1],decide_eq_decide.2 ?_⟩
   omega
  .refine⟨m,by simp[h1,h2],decide_eq_decide.2 ?_⟩
   omega
theorem vector_eq(N:Nat)(st:Int)(sk:Bool)(k s:Int){mv:List Int}(dc:List Int)(evs:Evs)(hm:mv.length=2):cellout_vector N st sk k s mv dc evs=some (vecB k mv):=by
 unfold cellout_vector vecB
 simp only[show cellout_intra N k=some (intraB k) from rfl,Option.isSome_some,if_true,Option.getD_some]
 cases intraB k
 .obtain⟨w0,h0,e0⟩:=wrap_eq N (mv.getD 0 0)
  obtain⟨w1,h1,e1⟩:=wrap_eq N (mv.getD 1 0)
  simp only[h0,h1,Option.getD_some,Option.isSome_some,e0,e1,cond_false,true_and,implies_true,if_true]
  cases decide (-32<=mv.getD 0 0/\mv.getD 0 0<=31)<;>rfl
 .rfl
theorem bare_eq{N:Nat}(hN:6<N)(st:Int)(sk:Bool)(k s:Int){mv dc:List Int}(evs:Evs)(hm:mv.length=2)(hd:dc.length=6):cellout_bare N st sk k s mv dc evs=some (decide (bareP k s mv dc evs)):=by
 unfold cellout_bare
 have key:∀x:Bool,iter (cellout_bare_b1 N evs) N (x,0)=some (x&&(List.range 6).all fun i=>decide (evs.getD i []=[])):=fun x=>by
  refine iter_to (fun i=>(x&&(List.range i).all (fun i=>decide (evs.getD i []=[])),(i:Int))) 6 ?_ ?_ ?_ hN
  .simp
  .intro i hi
   obtain⟨g1,g2,g3⟩:=in5 hi
   have g4:=inS (i:=i) (by omega)
   simp only[cellout_bare_b1,g1,g2,hi,and_self,if_true,g4,Int.toNat_natCast,decide_true,cond_true]
   refine congrArg (fun z=>some (Sum.inl z)) (Prod.ext ?_ ?_)
   rotate_left
   .show(i:Int)+1=((i+1:Nat):Int)
    omega
   rw[List.range_succ,List.all_append]
   have:decide (((evs.getD i []).length:Int)=0)=decide (evs.getD i []=[]):=decide_eq_decide.2 (by rw[<-List.length_eq_zero_iff];omega)
   show(bif(x&&_)then _ else false)=_
   rw[this]
   cases x<;>simp
  .simp[cellout_bare_b1]
 obtain⟨m0,m1,rfl⟩:=len2 hm
 obtain⟨d0,d1,d2,d3,d4,d5,rfl⟩:=len6 hd
 rw[show(List.replicate 2 (0:Int))=[0,0] from rfl,show(List.replicate 6 (0:Int))=[0,0,0,0,0,0] from rfl]
 simp only[key,Option.bind_some]
 refine congrArg some ?_
 rw[Bool.eq_iff_iff]
 unfold bareP
 by_cases h1:k=0<;>by_cases h2:s=0<;>simp[h1,h2, -List.getD_eq_getElem?_getD,and_assoc]
theorem zero_eq{N:Nat}(hN:6<N)(st:Int)(sk:Bool)(k s:Int){mv dc:List Int}(evs:Evs)(hm:mv.length=2)(hd:dc.length=6):ref22_zero N st sk k s mv dc evs=some (decide (bareP k s mv dc evs)):=by
 unfold ref22_zero
 have key:=iter_all (body:=ref22_zero_b1 N dc evs) 6 N (fun i=>decide (evs.getD i []=[])&&decide (dc.getD i 0=0)) (fun i hi=>by
  obtain⟨g1,g2,g3⟩:=in5 hi
  have g4:=inS (i:=i) (by omega)
  have:decide ((0:Int)<((evs.getD i []).length:Int))=!decide (evs.getD i []=[]):=by
   rw[<-decide_not]
   exact decide_eq_decide.2 (by rw[<-List.length_eq_zero_iff];omega)
  simp only[ref22_zero_b1,decide_eq_true g2,cond_true,Int.toNat_natCast,this,g1,g2,hi,and_self,implies_true,if_true,g4]
  by_cases h1:evs.getD i []=[]<;>by_cases h2:dc.getD i 0=0<;>simp[h1,h2, -List.getD_eq_getElem?_getD]) (by simp[ref22_zero_b1]) hN
 obtain⟨m0,m1,rfl⟩:=len2 hm
 obtain⟨d0,d1,d2,d3,d4,d5,rfl⟩:=len6 hd
 rw[key,Option.bind_some]
 have hall:(List.range 6).all (fun i=>decide (evs.getD i []=[])&&decide ([d0,d1,d2,d3,d4,d5].getD i 0=0))=true↔([d0,d1,d2,d3,d4,d5]=[0,0,0,0,0,0]/\∀i,i<6->evs.getD i []=[]):=by
  simp only[List.all_eq_true,List.mem_range,Bool.and_eq_true,decide_eq_true_eq]
  constructor
  .intro h
   refine⟨?_,fun i hi=>(h i hi).1⟩
   have h0:=(h 0 (by omega)).2
   have h1:=(h 1 (by omega)).2
   have h2:=(h 2 (by omega)).2
   have h3:=(h 3 (by omega)).2
   have h4:=(h 4 (by omega)).2
   have h5:=(h 5 (by omega)).2
   simp only[List.getD_cons_zero,List.getD_cons_succ]at h0 h1 h2 h3 h4 h5
   rw[h0,h1,h2,h3,h4,h5]
  .intro⟨h1,h2⟩ i hi
   refine⟨h2 i hi,?_⟩
   rw[h1]
   revert i
   decide
 cases hq:(List.range 6).all (fun i=>decide (evs.getD i []=[])&&decide ([d0,d1,d2,d3,d4,d5].getD i 0=0))with
 | true=>
  obtain⟨q1,q2⟩:=hall.1 hq
  simp only[cond_true,Sum.elim_inr]
  refine congrArg some ?_
  rw[Bool.eq_iff_iff,decide_eq_true_eq]
  unfold bareP
  rw[q1]
  by_cases h1:k=0<;>by_cases h2:s=0<;>simp[h1,h2, -List.getD_eq_getElem?_getD,List.getD_cons_zero,List.getD_cons_succ]
  exact fun h h'=>q2
 | false=>
  refine congrArg some ?_
  symm
  exact decide_eq_false fun h=>(by rw[hall.2 ⟨h.2.2.2.1,h.2.2.2.2⟩]at hq;cases hq)
theorem right_loop{M:Nat}{k:Int}{dc:List Int}{evs:Evs}(h:fewP evs):iter (cellout_Right_b1 (M+200) k dc evs) (M+200) 0=some (bif may6 k dc evs then .inr ()else .inl ()):=
 iter_all 6 (M+200) (fun i=>mayB (intraB k) (dc.getD i 0) (evs.getD i [])) (fun i hi=>by
  obtain⟨g1,g2,g3⟩:=in5 hi
  have g4:=inS (i:=i) (by omega)
  have hn:outbits_New (M+200)=some []:=rfl
  have hc:cellout_intra (M+200) k=some (intraB k):=rfl
  have hp:=bput_ok (M:=M) (b:=intraB k) (dc:=dc.getD i 0) (bits:=[]) (h i hi) (by simp)
  simp only[cellout_Right_b1,decide_eq_true g2,cond_true,Int.toNat_natCast,hn,hc,Option.getD_some,Option.isSome_some,hp,g1,g2,hi,and_self,if_true,g4]
  cases mayB (intraB k) (dc.getD i 0) (evs.getD i [])<;>rfl) (by simp[cellout_Right_b1]) (by omega)
theorem right_ok{M:Nat}(inter:Bool)(st:Int)(sk:Bool)(k s:Int){mv dc:List Int}{evs:Evs}(hm:mv.length=2)(hd:dc.length=6)(h:fewP evs):cellout_Right (M+200) inter st sk k s mv dc evs=some (rightB inter st sk k s mv dc evs):=by
 unfold cellout_Right rightB
 by_cases h1:0<=st
 .by_cases h2:st<=64
  .have e1:¬st<0:=by omega
   have e2:¬(64:Int)<st:=by omega
   rw[decide_eq_false e1,cond_false,decide_eq_false e2,cond_false,decide_eq_true (show 0<=st/\st<=64 from⟨h1,h2⟩),Bool.true_and]
   cases sk
   .simp only[cond_false]
    have hc:cellout_intra (M+200) k=some (intraB k):=rfl
    have hst:cellout_stepped (M+200) k=some (steppedB k):=rfl
    obtain⟨r,hr⟩:=steps_eq (M+200) s
    have hv:=vector_eq (M+200) st false k s dc evs hm
    simp only[hc,hst,hr,hv,Option.getD_some,Option.isSome_some,right_loop h,Option.bind_some]
    have key:(bif(!intraB k)then(bif(!inter)then true else(bif decide (k≠0)then decide (k≠1)else false))else false)=!kindB inter k:=by
     unfold kindB
     by_cases k0:k=0
     .subst k0;cases inter<;>rfl
     .by_cases k1:k=1
      .subst k1;cases inter<;>rfl
      .cases inter<;>cases intraB k<;>simp[k0,k1]
    have key2:(bif(bif(!(stB s==steppedB k))then true else(bif(!stB s)then decide (s≠0)else false))then true else(!vecB k mv))=!(stepB k s&&vecB k mv):=by
     unfold stepB
     by_cases s0:s=0
     .subst s0
      have:stB 0=false:=rfl
      rw[this]
      cases steppedB k<;>cases vecB k mv<;>rfl
     .cases hs:stB s<;>cases steppedB k<;>cases vecB k mv<;>simp[s0]
    rw[key,key2]
    have t1:∀(a b:Bool) (p:Bool),((!a&&!!b)=true->((p=true->((!a&&!!b)&&p)=true))):=by intro a b p;cases a<;>cases b<;>cases p<;>simp
    have t2:∀(a b:Bool),(!a)=true->((!b)=false->(!a&&!!b)=true):=by intro a b;cases a<;>cases b<;>simp
    have t3:∀(a b:Bool),(!a)=true->((!b)=true->((!a)&&(!b))=true):=by intro a b;cases a<;>cases b<;>simp
    rw[if_pos ⟨trivial,t1 _ _ _,t2 _ _⟩]
    cases kindB inter k
    .rfl
    .simp only[Bool.not_true,cond_false,if_true,Bool.true_and]
     rw[if_pos ⟨trivial,t3 _ _,fun _=>trivial⟩]
     generalize stepB k s=x
     generalize vecB k mv=y
     generalize may6 k dc evs=z
     cases x<;>cases y<;>cases z<;>rfl
   .have hb:=bare_eq (N:=M+200) (by omega) st true k s evs hm hd
    simp only[cond_true,hb,Option.isSome_some,implies_true,if_true,Option.getD_some]
    cases inter<;>simp
  .have e2:(64:Int)<st:=by omega
   simp[h2,e2]
 .have e1:st<0:=by omega
  simp[h1,e1]
theorem rstep_eq(N:Nat)(s:Int):∃r,ref20_Row N s=some r/\decide (ByteArray.toList r=ByteArray.toList ⟨#[]⟩)=!stB s:=by
 by_cases h1:s < -2
 .refine⟨⟨#[]⟩,by unfold ref20_Row;simp[h1],?_⟩
  have:stB s=false:=by unfold stB;simp;omega
  rw[this];simp
 .by_cases h2:2<s
  .refine⟨⟨#[]⟩,by unfold ref20_Row;simp[h1,h2],?_⟩
   have:stB s=false:=by unfold stB;simp;omega
   rw[this];simp
  .have hs:s = -2\/s = -1\/s=0\/s=1\/s=2:=by omega
   have one:∀x y:UInt8,decide (ByteArray.toList ⟨#[x,y]⟩=ByteArray.toList ⟨#[]⟩)=false:=by
    intro x y
    rw[strEq]
    exact decide_eq_false (by simp[bl])
   rcases hs with rfl|rfl|rfl|rfl|rfl
   .exact⟨⟨#[48,49]⟩,rfl,one _ _⟩
   .exact⟨⟨#[48,48]⟩,rfl,one _ _⟩
   .exact⟨⟨#[]⟩,rfl,by simp[stB]⟩
   .exact⟨⟨#[49,48]⟩,rfl,one _ _⟩
   .exact⟨⟨#[49,49]⟩,rfl,one _ _⟩
theorem rright_loop{N:Nat}(hN:200<N){k:Int}{dc:List Int}{evs:Evs}(h:fewP evs):iter (ref22_Right_b1 N k dc evs) N 0=some (bif may6 k dc evs then .inr ()else .inl ()):=
 iter_all 6 N (fun i=>mayB (intraB k) (dc.getD i 0) (evs.getD i [])) (fun i hi=>by
  obtain⟨g1,g2,g3⟩:=in5 hi
  have g4:=inS (i:=i) (by omega)
  have hc:ref21_Intra N k=some (intraB k):=rfl
  have hl:=h i hi
  have hp:=rmay_ok (N:=N) (b:=intraB k) (dc:=dc.getD i 0) (l:=evs.getD i []) (by omega) (by omega)
  simp only[ref22_Right_b1,decide_eq_true g2,cond_true,Int.toNat_natCast,hc,Option.getD_some,Option.isSome_some,hp,g1,g2,hi,and_self,if_true,g4]
  cases mayB (intraB k) (dc.getD i 0) (evs.getD i [])<;>rfl) (by simp[ref22_Right_b1]) (by omega)
theorem rvec_loop{N:Nat}(hN:200<N){k:Int}(hk:k=0\/k=1\/k=3\/k=4){mv:List Int}(hm:mv.length=2):iter (ref22_Right_b2 N k mv) N 0=some (bif vecB k mv then .inr ()else .inl ()):=by
 have h3:decide ((2:Int)<k)=intraB k:=by rcases hk with rfl|rfl|rfl|rfl<;>rfl
 have:=iter_all (body:=ref22_Right_b2 N k mv) 2 N (fun i=>decide (-32<=mv.getD i 0/\mv.getD i 0<=31)&&(!intraB k||decide (mv.getD i 0=0))) (fun i hi=>by
  have g1:(0:Int)<=(i:Int):=by omega
  have g2:(i:Int)<2:=by omega
  have g4:=inS (i:=i) (by omega)
  simp only[ref22_Right_b2,decide_eq_true g2,cond_true,Int.toNat_natCast,h3,g1,g2,hi,and_self,implies_true,true_and]
  have t1:∀(a b:Bool),a=true->(b=true->(a&&b)=true):=by intro a b;cases a<;>cases b<;>simp
  rw[if_pos (t1 _ _)]
  by_cases h1:mv.getD i 0 < -32
  .have:¬(-32<=mv.getD i 0):=by omega
   simp[h1,this, -List.getD_eq_getElem?_getD]
  .by_cases h2:(31:Int)<mv.getD i 0
   .have:¬(mv.getD i 0<=31):=by omega
    simp[h1,h2,this, -List.getD_eq_getElem?_getD]
   .have e1 : -32<=mv.getD i 0:=by omega
    have e2:mv.getD i 0<=31:=by omega
    by_cases e3:mv.getD i 0=0<;>cases intraB k<;>simp[h1,h2,e1,e2,e3,g4, -List.getD_eq_getElem?_getD]) (by simp[ref22_Right_b2]) (by omega)
 rw[this]
 obtain⟨a,b,rfl⟩:=len2 hm
 refine congrArg some (congrArg (fun z:Bool=>bif z then Sum.inr ()else Sum.inl ()) ?_)
 rw[Bool.eq_iff_iff]
 unfold vecB
 have hr:List.range 2=[0,1]:=rfl
 rw[hr]
 cases intraB k
 .simp
 .simp
  constructor
  .intro h;exact⟨h.1.2,h.2.2⟩
  .intro h;rw[h.1,h.2];decide
theorem rright_ok{N:Nat}(hN:200<N)(inter:Bool)(st:Int)(sk:Bool)(k s:Int){mv dc:List Int}{evs:Evs}(hm:mv.length=2)(hd:dc.length=6)(h:fewP evs):ref22_Right N inter st sk k s mv dc evs=some (rightB inter st sk k s mv dc evs):=by
 unfold ref22_Right rightB
 by_cases h1:0<=st
 .by_cases h2:st<=64
  .have e1:¬st<0:=by omega
   have e2:¬(64:Int)<st:=by omega
   rw[decide_eq_false e1,cond_false,decide_eq_false e2,cond_false,decide_eq_true (show 0<=st/\st<=64 from⟨h1,h2⟩),Bool.true_and]
   cases sk
   .simp only[cond_false]
    have t1:∀(a b:Bool),(!a)=true->(b=true->((!a)&&b)=true):=by intro a b;cases a<;>cases b<;>simp
    rw[if_pos (t1 _ _)]
    obtain⟨r,hr,hr'⟩:=rstep_eq N s
    by_cases hk:k=0\/k=1\/k=3\/k=4
    .have key:(bif(bif(bif decide (k<0)then true else decide ((4:Int)<k))then true else decide (k=2))then true else(bif decide (k<2)then(!inter)else false))=!kindB inter k:=by
      rcases hk with rfl|rfl|rfl|rfl<;>cases inter<;>rfl
     rw[key]
     cases kindB inter k
     .rfl
     .simp only[Bool.not_true,cond_false,Bool.true_and,joinK,rvec_loop hN hk hm,rright_loop hN h,Option.bind_some,hr,hr',Option.isSome_some,Option.getD_some,if_true]
      unfold stepB
      show(bif steppedB k then _ else _)=_
      cases steppedB k
      .by_cases s0:s=0
       .subst s0;cases vecB k mv<;>cases may6 k dc evs<;>rfl
       .simp[s0]
      .cases stB s<;>cases vecB k mv<;>cases may6 k dc evs<;>rfl
    .have e3:(bif(bif decide (k<0)then true else decide ((4:Int)<k))then true else decide (k=2))=true:=by
      by_cases k0:k<0
      .simp[k0]
      .by_cases k4:(4:Int)<k
       .simp[k4]
       .have:k=2:=by omega
        simp[this]
     have e4:kindB inter k=false:=by
      unfold kindB intraB
      have:k≠3:=fun e=>hk (by omega)
      have:k≠4:=fun e=>hk (by omega)
      have:k≠0:=fun e=>hk (by omega)
      have:k≠1:=fun e=>hk (by omega)
      simp[*]
     rw[e3,e4];rfl
   .have hb:=zero_eq (N:=N) (by omega) st true k s evs hm hd
    simp only[cond_true,hb,Option.isSome_some,implies_true,if_true,Option.getD_some]
    cases inter<;>simp
  .have e2:(64:Int)<st:=by omega
   simp[h2,e2]
 .have e1:st<0:=by omega
  simp[h1,e1]
end Go.Proofs.YtnpokkaalcfbfaaGreatDoor
