/- What the printed models answer: plain laws. -/
import Derived.Test.YtnpokkaalcfbfaaGreatDoorZB
set_option linter.unusedVariables false
set_option linter.unusedSimpArgs false
namespace Go.Proofs.YtnpokkaalcfbfaaGreatDoor
open Go.X
/-- A loop that may end early. -/
theorem iter_try{S O:Type}{body:S->Option (S⊕O)}(st:Nat->S)(n N:Nat)(P:Nat->Bool)(o1:Nat->O)(o2:O){s0:S}(h0:s0=st 0) (hs:∀i,i<n->P i=true->body (st i)=some (.inl (st (i+1)))) (hx:∀i,i<n->P i=false->body (st i)=some (.inr (o1 i))) (he:body (st n)=some (.inr o2)) (hN:n<N):
  ((List.range n).all P=true->iter body N s0=some o2)/\((List.range n).all P=false->∃k,k<n/\P k=false/\iter body N s0=some (o1 k)):=by
 rcases first_or (fun j=>P j=false) n with h|⟨k,h1,h2,h3⟩
 .have hP:∀i,i<n->P i=true:=fun i hi=>by simpa using h i hi
  have:(List.range n).all P=true:=List.all_eq_true.2 fun i hi=>hP i (List.mem_range.1 hi)
  refine⟨fun _=>iter_to st n h0 (fun i hi=>hs i hi (hP i hi)) he hN,fun hf => ?_⟩
  rw[this]at hf;cases hf
 .have:(List.range n).all P=false:=by
   cases hh:(List.range n).all P with
   | false=>rfl
   | true=>rw[List.all_eq_true.1 hh k (List.mem_range.2 h1)]at h2;cases h2
  refine⟨fun ht => ?_,fun _=>⟨k,h1,h2,?_⟩⟩
  .rw[this]at ht;cases ht
  .exact iter_to st k h0 (fun i hi=>hs i (by omega) (by simpa using h3 i hi)) (hx k h1 h2) (by omega)
theorem tab_at{α:Type}{n:Nat}(f:Nat->α)(k:Nat):(tab n f)[k]? = if k<n then some (f k)else none:=by
 unfold tab
 rw[List.getElem?_map]
 by_cases h:k<n
 .rw[List.getElem?_range h,if_pos h];rfl
 .rw[List.getElem?_eq_none (by simpa using h),if_neg h];rfl
theorem lay_tab{i:Nat}(hi:i<6)(g h:Nat->Int):layL (tab 384 g) (64*i) (tab 64 h) 64=tab 384 (fun k=>if k/64=i then h (k%64)else g k):=by
 apply List.ext_getElem?
 intro k
 unfold layL
 rw[List.append_assoc,List.getElem?_append,tab_at]
 have l1:((tab 384 g).take (64*i)).length=64*i:=by rw[List.length_take,tab_len];omega
 rw[l1]
 by_cases h1:k<64*i
 .rw[if_pos h1,List.getElem?_take,if_pos h1,tab_at,if_pos (by omega),if_pos (by omega),if_neg (by omega)]
 .rw[if_neg h1,List.getElem?_append,tab_len]
  by_cases h2:k-64*i<64
  .rw[if_pos h2,tab_at,if_pos h2,if_pos (by omega),if_pos (by omega)]
   exact congrArg (fun z=>some (h z)) (by omega)
  .rw[if_neg h2,List.getElem?_drop,show 64*i+64+(k-64*i-64)=k by omega,tab_at]
   by_cases h3:k<384
   .rw[if_pos h3,if_pos h3,if_neg (by omega)]
   .rw[if_neg h3,if_neg h3]
theorem blk_tab{xs:List Int}(h:xs.length=384){i:Nat}(hi:i<6):(xs.drop (64*i)).take 64=tab 64 fun k=>xs.getD (64*i+k) 0:=by
 apply List.ext_getElem?
 intro k
 rw[List.getElem?_take,tab_at]
 by_cases h1:k<64
 .rw[if_pos h1,if_pos h1,List.getElem?_drop,List.getD_eq_getElem?_getD,List.getElem?_eq_getElem (by omega)];rfl
 .rw[if_neg h1,if_neg h1]
def pl(k:Nat):Nat:=(placesL.getD k 0).toNat
def lp(k:Nat):Nat:=((List.range 64).findIdx fun j=>pl j==k)
theorem pl_facts:∀k,k<64->0<=placesL.getD k 0/\placesL.getD k 0<64/\lp (pl k)=k:=by decide +kernel
theorem lp_facts:∀k,k<64->lp k<64/\pl (lp k)=k:=by decide +kernel
theorem pl_lt{k:Nat}(h:k<64):pl k<64:=by have:=pl_facts k h;unfold pl;omega
/-- What stands ahead of a place: noughts since the last level, and the events. -/
def acc(f:Int)(L:Nat->Int):Nat->Int×List Ev
 | 0=>(0,[])
 | i+1=>if(i:Int)<f then acc f L i else if L i=0 then((acc f L i).1+1,(acc f L i).2)else(0,(acc f L i).2++[(false,((acc f L i).1,L i))])
def lok(f:Int)(L:Nat->Int)(i:Nat):Bool:=decide ((i:Int)<f)||decide (-127<=L i/\L i<=127)
def setLast(out:List Ev):List Ev:=if 0<out.length then out.set (out.length-1) (true,(out.getD (out.length-1) (false,((0:Int),(0:Int)))).2)else out
def evts(f:Int)(L:Nat->Int):List Ev×Int:=bif(List.range 64).all (lok f L)then(setLast (acc f L 64).2,0)else([],7)
theorem acc_bnd(f:Int)(L:Nat->Int):∀i,0<=(acc f L i).1/\(acc f L i).1<=i/\(acc f L i).2.length<=i/\∀j,(ev (acc f L i).2 j).1=false:=by
 intro i
 induction i with
 | zero=>exact⟨by simp[acc],by simp[acc],by simp[acc],fun j=>by simp[acc,ev]⟩
 | succ i ih=>
  obtain⟨h1,h2,h3,h4⟩:=ih
  simp only[acc]
  split
  .exact⟨h1,by omega,by omega,h4⟩
  .split
   .exact⟨by show 0<=(acc f L i).1+1;omega,by show(acc f L i).1+1<=((i+1:Nat):Int);omega,by show(acc f L i).2.length<=i+1;omega,h4⟩
   .refine⟨Int.le_refl 0,by show(0:Int)<=((i+1:Nat):Int);omega,by simp;omega,fun j => ?_⟩
    unfold ev
    rw[List.getD_eq_getElem?_getD,List.getElem?_append]
    split
    .have:=h4 j;unfold ev at this;rw[List.getD_eq_getElem?_getD]at this;exact this
    .rw[List.getElem?_singleton];split<;>rfl
theorem setLast_tab{out:List Ev}(h:∀j,(ev out j).1=false):setLast out=tab out.length fun k=>(decide ((k:Int)+1=(out.length:Int)),(ev out k).2):=by
 unfold setLast
 apply List.ext_getElem?
 intro k
 rw[tab_at]
 by_cases hk:k<out.length
 .have hev:out[k]? = some (ev out k):=by
   unfold ev
   rw[List.getD_eq_getElem?_getD,List.getElem?_eq_getElem hk];rfl
  rw[if_pos (by omega),if_pos hk,List.getElem?_set]
  by_cases hl:out.length-1=k
  .rw[if_pos hl,if_pos (by omega),hl,decide_eq_true (by omega)];rfl
  .rw[if_neg hl,hev,decide_eq_false (by omega),<-h k]
 .rw[if_neg hk]
  split
  .rw[List.getElem?_eq_none (by rw[List.length_set];omega)]
  .rw[List.getElem?_eq_none (by omega)]
theorem told_eq{N:Nat}(hN:64<N)(xs:List Int):scan_Told N xs=some (tab 64 fun k=>xs.getD (pl k) 0):=by
 unfold scan_Told
 rw[rep_tab,iter_fill 64 N (fun k=>xs.getD (pl k) 0) _ ?_ ?_ hN]
 .simp
 .intro i hi
  have h1:(i:Int)<64:=by omega
  have h2:=inS (i:=i) (by omega)
  obtain⟨h3,h4,_⟩:=pl_facts i hi
  have h5:(placesL.getD i 0).toNat<64:=pl_lt hi
  simp[scan_Told_b1,h1,h2,hi,h3,h4,h5, -List.getD_eq_getElem?_getD]
  rfl
 .intro xs
  simp[scan_Told_b1]
theorem raster_eq{N:Nat}(hN:64<N)(xs:List Int):scan_Raster N xs=some (tab 64 fun k=>xs.getD (lp k) 0):=by
 unfold scan_Raster
 have hit:iter (scan_Raster_b1 N xs) N (0,(List.replicate 64 0))=some (tab 64 fun k=>xs.getD (lp k) 0):=by
  refine iter_to (fun i=>((i:Int),tab 64 fun k=>if lp k<i then xs.getD (lp k) 0 else 0)) 64 ?_ ?_ ?_ hN
  .rw[rep_tab];simp
  .intro i hi
   have h1:(i:Int)<64:=by omega
   have h2:=inS (i:=i) (by omega)
   obtain⟨h3,h4,h6⟩:=pl_facts i hi
   have h5:(placesL.getD i 0).toNat<64:=pl_lt hi
   simp only[scan_Raster_b1,h1,h2,hi,h3,h4,h5,decide_true,cond_true,Int.toNat_natCast,and_self,if_true,Int.natCast_nonneg]
   refine congrArg (fun z=>some (Sum.inl z)) (Prod.ext (Int.natCast_succ i).symm ?_)
   show(tab 64 _).set (pl i) _=tab 64 (fun k=>if lp k<i+1 then xs.getD (lp k) 0 else 0)
   rw[tab_set]
   refine tab_ext fun k hk => ?_
   have h7:=(lp_facts k hk).2
   by_cases h8:k=pl i
   .have:lp k=i:=by rw[h8,h6]
    rw[if_pos h8,this,if_pos (by omega)]
   .have:lp k≠i:=fun e=>h8 (by rw[<-e,h7])
    by_cases h9:lp k<i
    .rw[if_neg h8,if_pos h9,if_pos (by omega)]
    .rw[if_neg h8,if_neg h9,if_neg (by omega)]
  .simp only[scan_Raster_b1]
   refine congrArg (fun z=>some (Sum.inr z)) (tab_ext fun k hk => ?_)
   rw[if_pos (lp_facts k hk).1]
 rw[hit];rfl
theorem order_eq(M:Nat):ref11_Order (M+200)=some placesL:=by kernel_rfl
theorem rtold_eq{M:Nat}(xs:List Int):ref11_Told (M+200) xs=some (tab 64 fun k=>xs.getD (pl k) 0):=by
 unfold ref11_Told
 rw[order_eq]
 simp only[Option.isSome_some,if_true]
 rw[rep_tab,iter_fill 64 (M+200) (fun k=>xs.getD (pl k) 0) _ ?_ ?_ (by omega)]
 .simp
 .intro i hi
  have h1:(i:Int)<64:=by omega
  have h2:=inS (i:=i) (by omega)
  obtain⟨h3,h4,_⟩:=pl_facts i hi
  have h5:(placesL.getD i 0).toNat<64:=pl_lt hi
  simp[ref11_Told_b1,h1,h2,hi,h3,h4,h5, -List.getD_eq_getElem?_getD]
  rfl
 .intro xs
  simp[ref11_Told_b1]
theorem rraster_eq{M:Nat}(xs:List Int):ref11_Raster (M+200) xs=some (tab 64 fun k=>xs.getD (lp k) 0):=by
 unfold ref11_Raster
 rw[order_eq]
 simp only[Option.isSome_some,if_true]
 have hit:iter (ref11_Raster_b1 (M+200) xs (some placesL)) (M+200) (0,(List.replicate 64 0))=some (tab 64 fun k=>xs.getD (lp k) 0):=by
  refine iter_to (fun i=>((i:Int),tab 64 fun k=>if lp k<i then xs.getD (lp k) 0 else 0)) 64 ?_ ?_ ?_ (by omega)
  .rw[rep_tab];simp
  .intro i hi
   have h1:(i:Int)<64:=by omega
   have h2:=inS (i:=i) (by omega)
   obtain⟨h3,h4,h6⟩:=pl_facts i hi
   have h5:(placesL.getD i 0).toNat<64:=pl_lt hi
   simp only[ref11_Raster_b1,Option.getD_some,h1,h2,hi,h3,h4,h5,decide_true,cond_true,Int.toNat_natCast,and_self,if_true,Int.natCast_nonneg]
   refine congrArg (fun z=>some (Sum.inl z)) (Prod.ext (Int.natCast_succ i).symm ?_)
   show(tab 64 _).set (pl i) _=tab 64 (fun k=>if lp k<i+1 then xs.getD (lp k) 0 else 0)
   rw[tab_set]
   refine tab_ext fun k hk => ?_
   have h7:=(lp_facts k hk).2
   by_cases h8:k=pl i
   .have:lp k=i:=by rw[h8,h6]
    rw[if_pos h8,this,if_pos (by omega)]
   .have:lp k≠i:=fun e=>h8 (by rw[<-e,h7])
    by_cases h9:lp k<i
    .rw[if_neg h8,if_pos h9,if_pos (by omega)]
    .rw[if_neg h8,if_neg h9,if_neg (by omega)]
  .simp only[ref11_Raster_b1]
   refine congrArg (fun z=>some (Sum.inr z)) (tab_ext fun k hk => ?_)
   rw[if_pos (lp_facts k hk).1]
 rw[hit];rfl
theorem events_eq{N:Nat}(hN:64<N){f:Int}(hf:f=0\/f=1)(xs:List Int):runs_Events N xs f=some (evts f fun k=>xs.getD k 0):=by
 have h0:(bif decide (f≠0)then decide (f≠1)else false)=false:=by rcases hf with rfl|rfl<;>rfl
 obtain⟨hy,hn⟩:=iter_try (body:=runs_Events_b1 N xs f) (fun i=>((acc f (fun k=>xs.getD k 0) i).2.length,(acc f (fun k=>xs.getD k 0) i).1,(i:Int),(acc f (fun k=>xs.getD k 0) i).2)) 64 N (lok f fun k=>xs.getD k 0) (fun _=>.inl ()) (.inr ((acc f (fun k=>xs.getD k 0) 64).2.length,(acc f (fun k=>xs.getD k 0) 64).2)) (s0:=(0,0,0,[])) rfl
  (fun i hi hP=>by
   have h1:(i:Int)<64:=by omega
   have h2:=inS (i:=i) (by omega)
   obtain⟨h3,h4,h5,_⟩:=acc_bnd f (fun k=>xs.getD k 0) i
   simp only[runs_Events_b1,h1,decide_true,cond_true,Int.natCast_nonneg,Int.toNat_natCast,hi,and_self,if_true,acc]
   by_cases hfi:(i:Int)<f
   .simp only[hfi,decide_true,cond_true,h2,if_true]
    refine congrArg (fun z=>some (Sum.inl z)) ?_
    rw[Int.natCast_succ]
   .unfold lok at hP
    simp only[Bool.or_eq_true,decide_eq_true_eq,hfi,false_or]at hP
    have e1:¬xs.getD i 0 < -127:=by omega
    have e2:¬(127:Int)<xs.getD i 0:=by omega
    simp only[hfi,e1,e2,decide_false,cond_false,if_false]
    by_cases hz:xs.getD i 0=0
    .have i1:inK .i64 ((acc f (fun k=>xs.getD k 0) i).1+1):=in64 (by omega) (by omega)
     simp only[hz,decide_true,cond_true,i1,h2,if_true]
     refine congrArg (fun z=>some (Sum.inl z)) ?_
     rw[Int.natCast_succ]
    .have j1:((acc f (fun k=>xs.getD k 0) i).2.length+1)*24<=140737488355328:=by omega
     have j2:(acc f (fun k=>xs.getD k 0) i).2.length+1<=9223372036854775807:=by omega
     simp only[hz,decide_false,cond_false,if_false,j1,j2,and_self,if_true,h2]
     refine congrArg (fun z=>some (Sum.inl z)) ?_
     rw[Int.natCast_succ]
     simp)
  (fun i hi hP=>by
   have h1:(i:Int)<64:=by omega
   unfold lok at hP
   simp only[Bool.or_eq_false_iff,decide_eq_false_iff_not]at hP
   simp only[runs_Events_b1,h1,decide_true,cond_true,Int.natCast_nonneg,Int.toNat_natCast,hi,and_self,if_true,hP.1,decide_false,cond_false]
   have:(bif decide (xs.getD i 0 < -127)then true else decide ((127:Int)<xs.getD i 0))=true:=by
    by_cases e1:xs.getD i 0 < -127
    .simp[e1, -List.getD_eq_getElem?_getD]
    .have e2:(127:Int)<xs.getD i 0:=by omega
     simp[e1,e2, -List.getD_eq_getElem?_getD]
   rw[this];rfl)
  (by simp[runs_Events_b1]) hN
 unfold runs_Events evts
 rw[h0,cond_false]
 cases hall:(List.range 64).all (lok f fun k=>xs.getD k 0)with
 | false=>
  obtain⟨k,_,_,hk⟩:=hn hall
  rw[hk];rfl
 | true=>
  rw[hy hall]
  obtain⟨_,_,h5,_⟩:=acc_bnd f (fun k=>xs.getD k 0) 64
  generalize (acc f (fun k=>xs.getD k 0) 64).2=out at *
  simp only[Option.bind_some,Sum.elim_inr,cond_true]
  unfold setLast
  by_cases hl:0<out.length
  .have e1:(0:Int)<(out.length:Int):=by omega
   have e2:inK .i64 ((out.length:Int)-1):=in64 (by omega) (by omega)
   have e3:(0:Int)<=(out.length:Int)-1:=by omega
   have e4:(out.length:Int)-1<(out.length:Int):=by omega
   have e5:((out.length:Int)-1).toNat=out.length-1:=by omega
   have e6:out.length-1<out.length:=by omega
   simp only[e1,e2,e3,e4,e5,e6,decide_true,implies_true,and_self,if_true,cond_true,List.length_set,hl]
  .have e1:¬(0:Int)<(out.length:Int):=by omega
   simp only[e1,decide_false,Bool.false_eq_true,false_imp_iff,and_self,if_true,cond_false,hl,if_false]
theorem revents_eq{N:Nat}(hN:100<N){f:Int}(hf:f=0\/f=1)(xs:List Int):ref10_Events N xs f=some (evts f fun k=>xs.getD k 0):=by
 obtain⟨fn,rfl,hfn⟩:∃fn:Nat,f=(fn:Int)/\fn<=1:=by
  rcases hf with rfl|rfl
  .exact⟨0,rfl,by omega⟩
  .exact⟨1,rfl,by omega⟩
 have h0:(bif decide ((fn:Int)<0)then true else decide ((1:Int)<(fn:Int)))=false:=by
  have e1:¬(fn:Int)<0:=by omega
  have e2:¬(1:Int)<(fn:Int):=by omega
  simp[e1,e2]
 have i0:inK .i64 ((fn:Int)-1):=in64 (by omega) (by omega)
 have start:acc (fn:Int) (fun k=>xs.getD k 0) fn=(0,[]):=by
  rcases(show fn=0\/fn=1 by omega)with rfl|rfl<;>rfl
 obtain⟨hy,hn⟩:=iter_try (body:=ref10_Events_b2 N xs) (fun j=>((acc fn (fun k=>xs.getD k 0) (fn+j)).2.length,((fn+j:Nat):Int)-1-(acc fn (fun k=>xs.getD k 0) (fn+j)).1,((fn+j:Nat):Int),(acc fn (fun k=>xs.getD k 0) (fn+j)).2)) (64-fn) N (fun j=>lok fn (fun k=>xs.getD k 0) (fn+j)) (fun _=>.inl ()) (.inr ((acc fn (fun k=>xs.getD k 0) 64).2.length,(acc fn (fun k=>xs.getD k 0) 64).2)) (s0:=(0,((fn:Int)-1),(fn:Int),[])) (by rw[Nat.add_zero,start];simp)
  (fun j hj hP=>by
   generalize hi:fn+j=i at *
   rw[show fn+(j+1)=i+1 by omega]
   have hi64:i<64:=by omega
   have h1:(i:Int)<64:=by omega
   have h2:=inS (i:=i) (by omega)
   obtain⟨h3,h4,h5,_⟩:=acc_bnd fn (fun k=>xs.getD k 0) i
   have hfi:¬(i:Int)<(fn:Int):=by omega
   unfold lok at hP
   simp only[Bool.or_eq_true,decide_eq_true_eq,hfi,false_or]at hP
   have e1:¬xs.getD i 0 < -127:=by omega
   have e2:¬(127:Int)<xs.getD i 0:=by omega
   simp only[ref10_Events_b2,h1,decide_true,cond_true,Int.natCast_nonneg,Int.toNat_natCast,hi64,and_self,if_true,implies_true,e1,e2,decide_false,cond_false,acc,hfi,if_false]
   unfold joinK
   by_cases hz:xs.getD i 0=0
   .simp only[hz,ne_eq,not_true,decide_false,cond_false,h2,if_true]
    refine congrArg (fun z=>some (Sum.inl z)) (Prod.ext rfl (Prod.ext ?_ (Prod.ext (Int.natCast_succ i).symm rfl)))
    show(i:Int)-1-_=((i+1:Nat):Int)-1-(_+1)
    omega
   .have j1:((acc fn (fun k=>xs.getD k 0) i).2.length+1)*24<=140737488355328:=by omega
    have j2:(acc fn (fun k=>xs.getD k 0) i).2.length+1<=9223372036854775807:=by omega
    have k1:inK .i64 ((i:Int)-((i:Int)-1-(acc fn (fun k=>xs.getD k 0) i).1)):=in64 (by omega) (by omega)
    have k2:inK .i64 ((i:Int)-((i:Int)-1-(acc fn (fun k=>xs.getD k 0) i).1)-1):=in64 (by omega) (by omega)
    simp only[hz,ne_eq,not_false_eq_true,decide_true,cond_true,if_false,j1,j2,k1,k2,and_self,if_true,h2,true_and]
    refine congrArg (fun z=>some (Sum.inl z)) (Prod.ext (by simp) (Prod.ext ?_ (Prod.ext (Int.natCast_succ i).symm ?_)))
    .show(i:Int)=((i+1:Nat):Int)-1-0
     omega
    .show _++[(false,_,_)]=_++[(false,_,_)]
     rw[show(i:Int)-((i:Int)-1-(acc fn (fun k=>xs.getD k 0) i).1)-1=(acc fn (fun k=>xs.getD k 0) i).1 by omega])
  (fun j hj hP=>by
   generalize hi:fn+j=i at *
   have hi64:i<64:=by omega
   have h1:(i:Int)<64:=by omega
   unfold lok at hP
   simp only[Bool.or_eq_false_iff,decide_eq_false_iff_not]at hP
   have:(bif decide ((127:Int)<xs.getD i 0)then true else decide (xs.getD i 0 < -127))=true:=by
    by_cases e1:(127:Int)<xs.getD i 0
    .simp[e1, -List.getD_eq_getElem?_getD]
    .have e2:xs.getD i 0 < -127:=by omega
     simp[e1,e2, -List.getD_eq_getElem?_getD]
   simp only[ref10_Events_b2,h1,decide_true,cond_true,Int.natCast_nonneg,Int.toNat_natCast,hi64,and_self,if_true,implies_true,this])
  (by
   have:fn+(64-fn)=64:=by omega
   simp only[this]
   simp[ref10_Events_b2]) (by omega)
 have hall2:(List.range (64-fn)).all (fun j=>lok fn (fun k=>xs.getD k 0) (fn+j))=(List.range 64).all (lok fn fun k=>xs.getD k 0):=by
  rw[Bool.eq_iff_iff,List.all_eq_true,List.all_eq_true]
  constructor
  .intro h i hi
   have hi:=List.mem_range.1 hi
   by_cases hlt:i<fn
   .unfold lok
    rw[decide_eq_true (show(i:Int)<(fn:Int) by omega)];rfl
   .have:=h (i-fn) (List.mem_range.2 (by omega))
    rwa [show fn+(i-fn)=i by omega]at this
  .intro h j hj
   exact h (fn+j) (List.mem_range.2 (by have:=List.mem_range.1 hj;omega))
 rw[hall2]at hy hn
 unfold ref10_Events evts
 rw[h0,cond_false,if_pos i0]
 cases hall:(List.range 64).all (lok fn fun k=>xs.getD k 0)with
 | false=>
  obtain⟨k,_,_,hk⟩:=hn hall
  rw[hk];rfl
 | true=>
  rw[hy hall]
  obtain⟨_,_,h5,h6⟩:=acc_bnd fn (fun k=>xs.getD k 0) 64
  generalize (acc (fn:Int) (fun k=>xs.getD k 0) 64).2=out at *
  simp only[Option.bind_some,Sum.elim_inr,cond_true]
  have hit:iter (ref10_Events_b1 N (out.length,out)) N (0,out)=some (setLast out):=by
   rw[setLast_tab h6]
   have hg:out=tab out.length (ev out):=tab_of _ rfl
   have:=iter_fill (body:=ref10_Events_b1 N (out.length,out)) out.length N (fun k=>(decide ((k:Int)+1=(out.length:Int)),(ev out k).2)) (ev out) (fun i hi=>by
    have g1:(i:Int)<(out.length:Int):=by omega
    have g2:=inS (i:=i) (by omega)
    simp only[ref10_Events_b1,g1,g2,decide_true,cond_true,Int.natCast_nonneg,Int.toNat_natCast,and_self,true_and,tab_len,hi,if_true,tab_get _ _ hi,Nat.lt_irrefl,if_false]) (fun xs=>by simp[ref10_Events_b1]) (by omega)
   rw[<-hg]at this
   exact this
  rw[hit]
  simp only[Option.bind_some]
  have:(setLast out).length=out.length:=by unfold setLast;split<;>simp
  rw[if_pos this.symm]
theorem ev_last{out:List Ev}(h:∀j,(ev out j).1=false):(setLast out).length=out.length/\(∀j,j<out.length->(ev (setLast out) j).1=decide (j+1=out.length))/\∀j,j<out.length->(ev (setLast out) j).2=(ev out j).2:=by
 have ht:=setLast_tab h
 refine⟨by rw[ht,tab_len],fun j hj => ?_,fun j hj => ?_⟩
 .unfold ev
  rw[ht,tab_get _ _ hj]
  exact decide_eq_decide.2 (by omega)
 .show(List.getD (setLast out) j _).2=_
  rw[ht,tab_get _ _ hj]
theorem evts_ext{f:Int}{L L':Nat->Int}(h:∀k,k<64->L k=L' k):evts f L=evts f L':=by
 have ha:∀i,i<=64->acc f L i=acc f L' i:=by
  intro i
  induction i with
  | zero=>intro _;rfl
  | succ i ih=>intro hi;simp only[acc];rw[ih (by omega),h i (by omega)]
 have hl:(List.range 64).all (lok f L)=(List.range 64).all (lok f L'):=by
  rw[Bool.eq_iff_iff,List.all_eq_true,List.all_eq_true]
  constructor
  .intro hh i hi
   have:=hh i hi
   unfold lok at this⊢
   rwa [<-h i (List.mem_range.1 hi)]
  .intro hh i hi
   have:=hh i hi
   unfold lok at this⊢
   rwa [h i (List.mem_range.1 hi)]
 unfold evts
 rw[hl,ha 64 (Nat.le_refl _)]
theorem evts_err(f:Int)(L:Nat->Int):(evts f L).2=0\/(evts f L).2=7:=by
 unfold evts
 cases (List.range 64).all (lok f L)
 .exact .inr rfl
 .exact .inl rfl
theorem evts_len(f:Int)(L:Nat->Int):(evts f L).1.length<=64:=by
 unfold evts
 cases (List.range 64).all (lok f L)
 .simp
 .obtain⟨_,_,b3,b4⟩:=acc_bnd f L 64
  have:=(ev_last b4).1
  simp only[cond_true];omega
theorem same_ok{N:Nat}{l:List Ev}(hl:l.length<4294967296)(hN:l.length<N):ref10_Same N l l=some true:=by
 unfold ref10_Same
 have:=iter_all (body:=ref10_Same_b1 N l l) l.length N (fun _=>true) (fun i hi=>by
  have g1:(i:Int)<(l.length:Int):=by omega
  have g2:=inS (i:=i) (by omega)
  simp[ref10_Same_b1,g1,g2, -List.getD_eq_getElem?_getD]) (by simp[ref10_Same_b1]) hN
 rw[this,show(List.range l.length).all (fun _=>true)=true by simp]
 simp
theorem csame_ok{N:Nat}(hN:2000<N)(st:Int)(sk:Bool)(k s:Int)(mv dc:List Int){evs:Evs}(h:∀i,i<6->(evs.getD i []).length<=1000):ref21_Same N st sk k s mv dc evs st sk k s mv dc evs=some true:=by
 unfold ref21_Same
 have:=iter_all (body:=ref21_Same_b1 N evs evs) 6 N (fun _=>true) (fun i hi=>by
  obtain⟨g1,g2,g3⟩:=in5 hi
  have g4:=inS (i:=i) (by omega)
  have hl:=h i hi
  simp only[ref21_Same_b1,g1,g2,hi,decide_true,cond_true,Int.toNat_natCast,same_ok (N:=N) (l:=evs.getD i []) (by omega) (by omega),Option.isSome_some,Option.getD_some,and_self,if_true,Bool.not_true,cond_false,g4]) (by simp[ref21_Same_b1]) (by omega)
 rw[this,show(List.range 6).all (fun _=>true)=true by simp]
 simp
theorem rlev_ok{N:Nat}(hN:100<N)(st:Int)(sk:Bool)(k s:Int)(mv dc:List Int){evs:Evs}{i:Nat}(hi:i<6)(q:Int)(hl:(evs.getD i []).length<=100)(ho:okE (bif intraB k then 1 else 0) (evs.getD i [])=true):
  overspill_residue_cell_levels N st sk k s mv dc evs q (i:Int)=some (tab 64 fun j=>(lvs (bif intraB k then 1 else 0) (evs.getD i []) (evs.getD i []).length).getD (lp j) 0):=by
 unfold overspill_residue_cell_levels
 have hc:overspill_residue_cell_intra N st sk k s mv dc evs q=some (intraB k):=rfl
 obtain⟨g1,g2,g3⟩:=in5 hi
 have hf:(bif intraB k then(1:Int)else 0)=0\/(bif intraB k then(1:Int)else 0)=1:=by cases intraB k<;>simp
 simp only[hc,Option.isSome_some,Option.getD_some,if_true,Int.toNat_natCast,levels_ok (N:=N) hf (show(evs.getD i []).length<4294967296 by omega) (by omega),ho,g1,g2,hi,and_self,raster_eq (N:=N) (by omega)]
theorem rlevels_cell{M:Nat}(st:Int)(sk:Bool)(k s:Int){mv dc:List Int}{evs:Evs}(hm:mv.length=2)(hd:dc.length=6)(h:fewP evs)(hr:rightB true st sk k s mv dc evs=true)(ho:∀i,i<6->okE (bif intraB k then 1 else 0) (evs.getD i [])=true):
  residue_Levels (M+200) st sk k s mv dc evs=some (tab 384 fun j=>(lvs (bif intraB k then 1 else 0) (evs.getD (j/64) []) (evs.getD (j/64) []).length).getD (lp (j%64)) 0,0):=by
 have hit:iter (residue_every_levels_b1 (M+200) st sk k s mv dc evs 0) (M+200) (0,(List.replicate 384 0))=some (tab 384 fun j=>(lvs (bif intraB k then 1 else 0) (evs.getD (j/64) []) (evs.getD (j/64) []).length).getD (lp (j%64)) 0):=by
  refine iter_to (fun i=>((i:Int),tab 384 fun j=>if j/64<i then(lvs (bif intraB k then 1 else 0) (evs.getD (j/64) []) (evs.getD (j/64) []).length).getD (lp (j%64)) 0 else 0)) 6 ?_ ?_ ?_ (by omega)
  .rw[rep_tab];simp
  .intro i hi
   obtain⟨g1,g2,g3⟩:=in5 hi
   have g4:=inS (i:=i) (by omega)
   have g5:64*i+64<=384:=by omega
   simp only[residue_every_levels_b1,g1,g2,decide_true,cond_true,Int.toNat_natCast,rlev_ok (N:=M+200) (by omega) st sk k s mv dc hi 0 (h i hi) (ho i hi),Option.isSome_some,Option.getD_some,and_self,if_true,g4,g5]
   refine congrArg (fun z=>some (Sum.inl z)) (Prod.ext (Int.natCast_succ i).symm ?_)
   show layL (tab 384 _) (64*i) (tab 64 _) 64=tab 384 (fun j=>if j/64<i+1 then(lvs (bif intraB k then 1 else 0) (evs.getD (j/64) []) (evs.getD (j/64) []).length).getD (lp (j%64)) 0 else 0)
   rw[lay_tab hi]
   refine tab_ext fun j hj => ?_
   by_cases hji:j/64=i
   .rw[if_pos hji,if_pos (by omega),hji]
   .by_cases hlt:j/64<i
    .rw[if_neg hji,if_pos hlt,if_pos (by omega)]
    .rw[if_neg hji,if_neg hlt,if_neg (by omega)]
  .simp only[residue_every_levels_b1]
   refine congrArg (fun z=>some (Sum.inr z)) (tab_ext fun j hj => ?_)
   rw[if_pos (by omega)]
 unfold residue_Levels residue_every_levels
 rw[right_ok true st sk k s hm hd h,hr]
 simp only[Option.isSome_some,Option.getD_some,if_true,Bool.not_true,cond_false,hit,Option.bind_some]
theorem rlevels_no{M:Nat}(st:Int)(sk:Bool)(k s:Int){mv dc:List Int}{evs:Evs}(hm:mv.length=2)(hd:dc.length=6)(h:fewP evs)(hr:rightB true st sk k s mv dc evs=false):
  residue_Levels (M+200) st sk k s mv dc evs=some (List.replicate 384 0,12):=by
 unfold residue_Levels residue_every_levels
 rw[right_ok true st sk k s hm hd h,hr]
 simp only[Option.isSome_some,Option.getD_some,if_true,Bool.not_false,cond_true]
end Go.Proofs.YtnpokkaalcfbfaaGreatDoor
