import Derived.Test.YtipfggegddlgdaaGreatDoorKw25
set_option linter.unusedSectionVars false
set_option linter.unusedVariables false
set_option linter.unusedSimpArgs false
namespace Go.Proofs.YtipfggegddlgdaaGreatDoor
section
namespace Pe
open Tryz
open Go Go.RowKit Co Sg Ac It Sl Tp Sr
set_option maxRecDepth 100000
set_option maxHeartbeats 4000000
theorem Za1(n:Nat)(hl:n≤1000)(P X Q:List Fa)(y:Fa)(a m b:Nat)(ha:P.length=a)(hm:a+X.length=m)(hb:m+1=b)(hX2:2≤X.length)(hX:Up As X)(hT:Tot As (X++[y]))(hn:(P++X++[y]++Q).length=n):
  AC prog 310 [.wr 0 n none,.it .i64 (a:Int),.it .i64 (m:Int),.it .i64 (b:Int),.fn (.func 181) [] []]
   [.row (AA Az (P++X++[y]++Q)) 218 22] (.tup []) [.row (AA Az (P++AY As (X++[y])++Q)) 218 22]:=by
 have henc:=Hz;have hYl:=hn;simp only[List.length_append,List.length_singleton]at hn;refine AC.enter2 [1000040,1000092,1000158] [] func310 rfl (by decide) (by decide) (Nat.le_of_ble_eq_true rfl) (by kernel_rfl) ?_
 refine AD ?_
 have wma:IntKind.i64.wrap ((m:Int)-(a:Int))=(X.length:Int):=by rw[wrap64 (by omega) (by omega)];omega
 have wbm:IntKind.i64.wrap ((b:Int)-(m:Int))=1:=by rw[wrap64 (by omega) (by omega)];omega
 have wne:((X.length:Int)==1)=false:=Cb (by omega)
 refine Ab (A3 @wma @wne @wbm) ?_;clear wma wbm wne;refine AN (fun t e S=>e 0=.wr 0 n none∧e 2=.it .i64 (m:Int)∧e 4=.fn (.func 181) [] []∧S=[.row (AA Az (P++X++[y]++Q)) 218 22] ∧ ∃i j i' j':Nat,e 14=.it .i64 (i:Int)∧e 15=.it .i64 (j:Int)∧i=a+i'∧j=a+j'∧i'≤j'∧j'≤X.length∧(∀(c:Nat) x,X[c]? = some x→c<i'→As y x=false)∧(∀(c:Nat) x,X[c]? = some x→j'≤c→As y x=true)∧t=j'-i') X.length ⟨Aa,Aa,Aa,rfl,a,m,0,X.length,Aa,Aa,rfl,hm.symm,Nat.zero_le _,Nat.le_refl _,fun c y _ h=>absurd h (Nat.not_lt_zero _),fun c y h h'=>by have :=(List.getElem?_eq_some_iff.1 h).1;omega,rfl⟩ ?_
 rintro t e S ⟨s0,s2,s4,rfl,i,j,i',j',s14,s15,ei,ej,hij,hj,hlo,hhi,rfl⟩
 by_cases hlt:i'<j'
 ·have x0:(i:Int)<(j:Int):=by omega
  obtain⟨h,hh⟩:∃h,h=(i+j) / 2:=⟨_,rfl⟩
  obtain⟨h',hh'⟩:∃h',h=a+h':=⟨h-a,by omega⟩
  have xx:=x0;have hs2:El .u64 (IntKind.u64.wrap ((i+j:Nat):Int)) 1=some (.it .u64 (h:Int)):=by rw[hh];exact Nu _ (by omega)
  have wh:IntKind.i64.wrap (h:Int)=(h:Int):=wrap64 (by omega) (by omega)
  have ww:IntKind.i64.wrap ((i:Int)+(j:Int))=((i+j:Nat):Int):=by rw[wrap64 (by omega) (by omega)];omega
  have wh1:=AT (k:=h) (by omega)
  have hhl:h'<X.length:=by omega
  have gx:X[h']? = some X[h']:=List.getElem?_eq_getElem hhl
  generalize X[h']=x at gx;have g0:(P++X++[y]++Q)[h]? = some x:=by
   have :=KA P X ([y]++Q) gx;rwa[ha,←hh',←List.append_assoc]at this
  have g1:(P++X++[y]++Q)[m]? = some y:=by
   have :=KA (P++X) [y] Q (t:=0) (x:=y) rfl;rwa[List.length_append,ha,Nat.add_zero,hm]at this
  have kc:=N7 y x;generalize P++X++[y]++Q=Z at *;have hij2:h<m:=by omega
  have hjn:m<n:=by have :=(List.getElem?_eq_some_iff.1 g1).1;omega
  have a1:=EH henc Z m _ g1;have a0:=EH henc Z h _ g0;have hF:=E2 henc Z;rw[hYl]at hF;change((AA Az Z).drop (m*22)).take 22=_ at a1;change((AA Az Z).drop (h*22)).take 22=_ at a0;change _=n*22 at hF;have b1:m*22+22≤n*22:=by omega
  have b0:h*22+22≤n*22:=by omega
  have x1:((m:Nat):Int)<(n:Int):=by omega
  have x0:((h:Nat):Int)<(n:Int):=by omega
  have z1:(0:Int)≤((m:Nat):Int):=by omega
  have z0:(0:Int)≤((h:Nat):Int):=by omega
  have q1:(m*22=0∧22=n*22)=False:=eq_false (by omega)
  have q0:(h*22=0∧22=n*22)=False:=eq_false (by omega)
  have l0:=henc.cel x;have l1:=henc.cel y;change _=22 at l0;change _=22 at l1;refine Ab (an @s0 (an @s2 (an @s4 (an @s14 (an @s15 (an @xx (an @ww (an @hs2 (an @wh (an @x1 (an @x0 (An @z1 @z0 @hF @a1 @a0 @b1 @b0 @q1 @q0 @l0 @l1)))))))))))) ?_;refine cp kc ?_;cases hlf:As y x with
  | false=>
   have hc:¬F3 y.rank x.rank y.dig x.dig<0:=of_decide_eq_false hlf;refine Ab (A7 @s0 @s2 @s4 @s14 @s15 @hc @wh1) ?_;exact Aj (j'-(h'+1)) (by omega) ⟨Aa,Aa,Aa,rfl,h+1,j,h'+1,j',Aa,Aa,by omega,ej,by omega,hj,(fun c z hz hc=>by
    by_cases e:c=h'
    ·subst e;rw[gx]at hz;cases hz;exact hlf
    ·cases e2:As y z with
     |false=>rfl
     |true=>have :=Cw.trans e2 (HU Cw hX hz gx (by omega));rw[hlf]at this;cases this),hhi,rfl⟩
  | true=>
   have hc:F3 y.rank x.rank y.dig x.dig<0:=of_decide_eq_true hlf;refine Ab (A6 @s0 @s2 @s4 @s14 @s15 @hc) ?_;exact Aj (h'-i') (by omega) ⟨Aa,Aa,Aa,rfl,i,h,i',h',Aa,Aa,ei,hh',by omega,by omega,hlo,(fun c z hz hc=>by
    by_cases e:c=h'
    ·subst e;rw[gx]at hz;cases hz;exact hlf
    ·exact Cw.trans hlf (HU Cw hX gx hz (by omega))),rfl⟩
 ·obtain rfl:i'=j':=by omega
  have x0:¬(i:Int)<(j:Int):=by omega
  have hres:AY As (X++[y])=X.take i'++y::X.drop i':=by
   refine GE ?_ (O9 Cw (by rw[List.take_append_drop];exact hX) (fun W z hW=>?_) fun z hz=>?_)
   ·refine List.perm_middle.trans ?_
    rw[List.take_append_drop];exact(List.perm_append_singleton y X).symm
   ·obtain⟨p1,p2⟩:=No hW hj
    rcases hT.tri y (by simp) z (List.mem_append.2 (.inl (List.mem_of_getElem? p2))) (hlo _ z p2 (by omega))with e|e
    ·exfalso
     have :=(List.nodup_append.1 hT.nodup).2.2 z (List.mem_of_getElem? p2) y (by simp)
     exact this e.symm
    ·exact e
   ·obtain⟨c,hc⟩:=List.mem_iff_getElem?.1 hz
    rw[List.getElem?_drop]at hc
    exact hhi _ z hc (by omega)
  rw[hres];clear hres;refine Ab (A6 @s0 @s2 @s4 @s14 @s15 @x0) ?_;refine AN (fun t e S=>e 0=.wr 0 n none∧e 14=.it .i64 (i:Int) ∧ ∃k t':Nat,e 17=.it .i64 (k:Int)∧k=a+t'∧i'≤t'∧t'≤X.length∧S=[.row (AA Az (P++(X.take t'++y::X.drop t')++Q)) 218 22]∧t=t'-i') (X.length-i') ⟨Aa,Aa,m,X.length,Aa,hm.symm,hj,Nat.le_refl _,by simp,rfl⟩ ?_
  clear s0 s2 s4 s14 s15 x0;rintro t e S ⟨s0,s14,k,t',s17,ek,ht,ht2,rfl,rfl⟩
  by_cases hk:i'<t'
  ·obtain⟨r,rfl⟩:∃r,t'=r+1:=⟨t'-1,by omega⟩
   obtain⟨q,rfl⟩:∃q,k=q+1:=⟨k-1,by omega⟩
   have hx:((q+1:Nat):Int)>(i:Int):=by omega
   have wk1:IntKind.i64.wrap (((q+1:Nat):Int)-1)=(q:Int):=by rw[wrap64 (by omega) (by omega)];omega
   have gx:X[r]? = some X[r]:=List.getElem?_eq_getElem (by omega)
   have hd:X.drop r=X[r]::X.drop (r+1):=List.drop_eq_getElem_cons (by omega)
   have htk:X.take (r+1)=X.take r++[X[r]]:=List.take_succ_eq_append_getElem (by omega)
   generalize X[r]=x at gx hd htk;have hM:P++(X.take (r+1)++y::X.drop (r+1))++Q=(P++X.take r)++x::([]++y::(X.drop (r+1)++Q)):=by rw[htk];simp
   have hkl:(P++X.take r).length=q:=by rw[List.length_append,List.length_take];omega
   have hsw:=Nk (P++X.take r) [] (X.drop (r+1)++Q) x y;have g0:((P++X.take r)++x::([]++y::(X.drop (r+1)++Q)))[q]? = some x:=by rw[←hkl];exact Mf _ _ _
   have g1:((P++X.take r)++x::([]++y::(X.drop (r+1)++Q)))[q+1]? = some y:=by
    rw[List.getElem?_append_right (by omega),hkl,show q+1-q=1 by omega];rfl
   have hYl:((P++X.take r)++x::([]++y::(X.drop (r+1)++Q))).length=n:=by
    simp only[List.length_append,List.length_cons,List.length_nil,List.length_take,List.length_drop];omega
   rw[hkl]at hsw;have hres:(P++X.take r)++y::([]++x::(X.drop (r+1)++Q))=P++(X.take r++y::X.drop r)++Q:=by rw[hd];simp
   rw[hres]at hsw;rw[hM];generalize (P++X.take r)++x::([]++y::(X.drop (r+1)++Q))=Z at *;have hjn:q+1<n:=by have :=(List.getElem?_eq_some_iff.1 g1).1;omega
   have a1:=EH henc Z (q+1) _ g1;have a0:=EH henc Z q _ g0;have hF:=E2 henc Z;rw[hYl]at hF;change((AA Az Z).drop ((q+1)*22)).take 22=_ at a1;change((AA Az Z).drop (q*22)).take 22=_ at a0;change _=n*22 at hF;have b1:(q+1)*22+22≤n*22:=by omega
   have b0:q*22+22≤n*22:=by omega
   have x1:(((q+1):Nat):Int)<(n:Int):=by omega
   have x0:((q:Nat):Int)<(n:Int):=by omega
   have z1:(0:Int)≤(((q+1):Nat):Int):=by omega
   have z0:(0:Int)≤((q:Nat):Int):=by omega
   have q1:((q+1)*22=0∧22=n*22)=False:=eq_false (by omega)
   have q0:(q*22=0∧22=n*22)=False:=eq_false (by omega)
   have l0:=henc.cel x;have l1:=henc.cel y;change _=22 at l0;change _=22 at l1;have e1:Bf (AA Az Z) ((q+1)*22) (Cz Az x)=AA Az (Z.set (q+1) x):=H5 henc Z (q+1) x (by omega)
   have e2:Bf (AA Az (Z.set (q+1) x)) (q*22) (Cz Az y)=AA Az ((Z.set (q+1) x).set q y):=H5 henc _ q y (by rw[List.length_set];omega)
   have hF1:(AA Az (Z.set (q+1) x)).length=n*22:=by
    have :=E2 henc (Z.set (q+1) x);rwa[List.length_set,hYl]at this
   change(Z.set q y).set (q+1) x=_ at hsw;rw[List.set_comm _ _ (by omega)]at hsw
   refine Ab (an @s0 (an @s14 (an @s17 (an @hx (an @wk1 (an @x1 (an @x0 (an @z1 (an @z0 (an @hF (An @a1 @a0 @b1 @b0 @q1 @q0 @e1 @e2 @hF1 @l0 @l1))))))))))) ?_;rw[hsw];exact Aj (r-i') (by omega) ⟨Aa,Aa,q,r,Aa,by omega,by omega,by omega,rfl,rfl⟩
  ·obtain rfl:t'=i':=by omega
   have hx:¬(k:Int)>(i:Int):=by omega
   refine Ab (A4 @s0 @s14 @s17 @hx) ?_;exact CO (Fv henc _ _ _ _)
end Pe
end
section
namespace Pe
open Tryz
open Go Go.RowKit Co Sg Ac It Sl Tp Sr
set_option maxRecDepth 100000
set_option maxHeartbeats 4000000
def RG(n k:Nat):Prop:=∀(P X Y Q:List Fa) (a m b:Nat),X.length+Y.length≤k→P.length=a→a+X.length=m→m+Y.length=b→X≠[]→Y≠[]→Up As X→Up As Y→Tot As (X++Y)→(P++X++Y++Q).length=n →
  AC prog 310 [.wr 0 n none,.it .i64 (a:Int),.it .i64 (m:Int),.it .i64 (b:Int),.fn (.func 181) [] []]
   [.row (AA Az (P++X++Y++Q)) 218 22] (.tup []) [.row (AA Az (P++AY As (X++Y)++Q)) 218 22]
theorem Za0(n:Nat)(hl:n≤1000)(k:Nat)(ih:RG n k):RG n (k+1):=by
 intro P X Y Q a m b hk ha hm hb hX0 hY0 hX hY hT hYl;have hXp:=List.length_pos_iff.2 hX0;have hYp:=List.length_pos_iff.2 hY0;by_cases c1:X.length=1
 ·obtain⟨x,rfl⟩:=List.length_eq_one_iff.1 c1
  exact Za2 n hl P Y Q x a m b ha hm hb hY hT hYl
 by_cases c2:Y.length=1
 ·obtain⟨y,rfl⟩:=List.length_eq_one_iff.1 c2
  exact Za1 n hl P X Q y a m b ha hm hb (by omega) hX hT hYl
 have henc:=Hz;have hn:=hYl;simp only[List.length_append]at hn;obtain⟨mid,hmid⟩:∃mid,mid=(a+b) / 2:=⟨_,rfl⟩
 obtain⟨nn,hnn⟩:∃nn,nn=mid+m:=⟨_,rfl⟩
 refine AC.enter2 [1000040,1000092,1000158] [] func310 rfl (by decide) (by decide) (Nat.le_of_ble_eq_true rfl) (by kernel_rfl) ?_
 refine AD ?_
 rw[GW,GW,GW,GW,GW,GW];refine MW (fun e S=>e 0=.wr 0 n none∧e 1=.it .i64 (a:Int)∧e 2=.it .i64 (m:Int)∧e 3=.it .i64 (b:Int)∧e 4=.fn (.func 181) [] []∧e 18=.it .i64 (mid:Int)∧e 19=.it .i64 (nn:Int)∧e 22=.it .i64 ((nn-1:Nat):Int)∧S=[.row (AA Az (P++X++Y++Q)) 218 22] ∧ ∃lo hi:Nat,e 20=.it .i64 (lo:Int)∧e 21=.it .i64 (hi:Int)∧((m>mid∧lo+b=nn∧hi=mid)∨(m≤mid∧lo=a∧hi=m))) ?_ ?_
 ·intro Kt hKt
  have wma:IntKind.i64.wrap ((m:Int)-(a:Int))=(X.length:Int):=by rw[wrap64 (by omega) (by omega)];omega
  have wbm:IntKind.i64.wrap ((b:Int)-(m:Int))=(Y.length:Int):=by rw[wrap64 (by omega) (by omega)];omega
  have wne:((X.length:Int)==1)=false:=Cb (by omega)
  have wne2:((Y.length:Int)==1)=false:=Cb (by omega)
  have wab:IntKind.i64.wrap ((a:Int)+(b:Int))=((a+b:Nat):Int):=by rw[wrap64 (by omega) (by omega)];omega
  have hs2:El .u64 (IntKind.u64.wrap ((a+b:Nat):Int)) 1=some (.it .u64 (mid:Int)):=by rw[hmid];exact Nu _ (by omega)
  have wmid:IntKind.i64.wrap (mid:Int)=(mid:Int):=wrap64 (by omega) (by omega)
  have wnn:IntKind.i64.wrap ((mid:Int)+(m:Int))=(nn:Int):=by rw[wrap64 (by omega) (by omega)];omega
  have wp:IntKind.i64.wrap ((nn:Int)-1)=((nn-1:Nat):Int):=by rw[wrap64 (by omega) (by omega)];omega
  by_cases g:m>mid
  ·obtain⟨lo,hlo⟩:∃lo,lo+b=nn:=⟨nn-b,by omega⟩
   have wlo:IntKind.i64.wrap ((nn:Int)-(b:Int))=(lo:Int):=by rw[wrap64 (by omega) (by omega)];omega
   have g':(m:Int)>(mid:Int):=by omega
   refine Ab (An @wma @wne @wbm @wne2 @wab @hs2 @wmid @wnn @wp @wlo @g') ?_;exact hKt _ _ ⟨Aa,Aa,Aa,Aa,Aa,Aa,Aa,Aa,rfl,lo,mid,Aa,Aa,.inl ⟨g,hlo,rfl⟩⟩
  ·have g':¬(m:Int)>(mid:Int):=by omega
   refine Ab (BZ @wma @wne @wbm @wne2 @wab @hs2 @wmid @wnn @wp @g') ?_;exact hKt _ _ ⟨Aa,Aa,Aa,Aa,Aa,Aa,Aa,Aa,rfl,a,m,Aa,Aa,.inr ⟨by omega,rfl,rfl⟩⟩
 rintro e S ⟨s0,s1,s2,s3,s4,s18,s19,s22,rfl,lo,hi,s20,s21,hlh⟩
 have hdim:lo≤hi∧a≤lo∧hi≤m∧m+hi≤nn∧nn≤b+lo∧(lo=a∨nn=b+lo)∧(hi=m∨m+hi=nn):=by omega
 obtain⟨d1,d2,d3,d4,d5,d6,d7⟩:=hdim;clear hlh;rw[GW];refine MW (fun e S=>e 0=.wr 0 n none∧e 1=.it .i64 (a:Int)∧e 2=.it .i64 (m:Int)∧e 3=.it .i64 (b:Int)∧e 4=.fn (.func 181) [] []∧e 18=.it .i64 (mid:Int)∧S=[.row (AA Az (P++X++Y++Q)) 218 22] ∧ ∃s en:Nat,e 20=.it .i64 (s:Int)∧e 24=.it .i64 (en:Int)∧a≤s∧s≤m∧m≤en∧en≤b∧s+en=nn ∧ ∀u∈X.take (s-a)++Y.take (en-m),∀v∈X.drop (s-a)++Y.drop (en-m),As u v=true) ?_ ?_
 ·intro Kt hKt
  refine Ab (BZ @s0 @s1 @s2 @s3 @s4 @s18 @s19 @s20 @s21 @s22) ?_;refine AN (fun t e S=>e 0=.wr 0 n none∧e 1=.it .i64 (a:Int)∧e 2=.it .i64 (m:Int)∧e 3=.it .i64 (b:Int)∧e 4=.fn (.func 181) [] []∧e 18=.it .i64 (mid:Int)∧e 19=.it .i64 (nn:Int)∧e 22=.it .i64 ((nn-1:Nat):Int)∧S=[.row (AA Az (P++X++Y++Q)) 218 22] ∧ ∃s r:Nat,e 20=.it .i64 (s:Int)∧e 21=.it .i64 (r:Int)∧lo≤s∧s≤r∧r≤hi∧(∀(c:Nat) x y,lo≤c→c<s→X[c-a]? = some x→Y[nn-1-c-m]? = some y→As y x=false)∧(∀(c:Nat) x y,r≤c→c<hi→X[c-a]? = some x→Y[nn-1-c-m]? = some y→As y x=true)∧t=r-s) (hi-lo) ⟨Aa,Aa,Aa,Aa,Aa,Aa,Aa,Aa,rfl,lo,hi,Aa,Aa,Nat.le_refl _,d1,Nat.le_refl _,fun c x y h1 h2=>absurd h2 (by omega),fun c x y h1 h2=>absurd h2 (by omega),rfl⟩ ?_
  clear s0 s1 s2 s3 s4 s18 s19 s20 s21 s22;rintro t e S ⟨s0,s1,s2,s3,s4,s18,s19,s22,rfl,s,r,s20,s21,f1,f2,f3,hlo,hhi,rfl⟩
  by_cases hlt:s<r
  ·have xx:(s:Int)<(r:Int):=by omega
   obtain⟨c,hc0⟩:∃c,c=(s+r) / 2:=⟨_,rfl⟩
   have hs2:El .u64 (IntKind.u64.wrap ((s+r:Nat):Int)) 1=some (.it .u64 (c:Int)):=by rw[hc0];exact Nu _ (by omega)
   have wh:IntKind.i64.wrap (c:Int)=(c:Int):=wrap64 (by omega) (by omega)
   have ww:IntKind.i64.wrap ((s:Int)+(r:Int))=((s+r:Nat):Int):=by rw[wrap64 (by omega) (by omega)];omega
   have wh1:=AT (k:=c) (by omega)
   obtain⟨d,hd⟩:∃d,d=nn-1-c:=⟨_,rfl⟩
   have wd:IntKind.i64.wrap (((nn-1:Nat):Int)-(c:Int))=(d:Int):=by rw[wrap64 (by omega) (by omega)];omega
   have gx:X[c-a]? = some X[c-a]:=List.getElem?_eq_getElem (by omega)
   have gy:Y[d-m]? = some Y[d-m]:=List.getElem?_eq_getElem (by omega)
   generalize X[c-a]'(by omega)=x at gx
   generalize Y[d-m]'(by omega)=y at gy
   have g0:(P++X++Y++Q)[c]? = some x:=by
    have :=KA P X (Y++Q) gx;rwa[ha,show a+(c-a)=c by omega,←List.append_assoc]at this
   have g1:(P++X++Y++Q)[d]? = some y:=by
    have :=KA (P++X) Y Q gy;rwa[List.length_append,ha,hm,show m+(d-m)=d by omega]at this
   have kc:=N7 y x;generalize P++X++Y++Q=Z at *;have hcd:c<d:=by omega
   have hjn:d<n:=by have :=(List.getElem?_eq_some_iff.1 g1).1;omega
   have a1:=EH henc Z d _ g1;have a0:=EH henc Z c _ g0;have hF:=E2 henc Z;rw[hYl]at hF;change((AA Az Z).drop (d*22)).take 22=_ at a1;change((AA Az Z).drop (c*22)).take 22=_ at a0;change _=n*22 at hF;have b1:d*22+22≤n*22:=by omega
   have b0:c*22+22≤n*22:=by omega
   have x1:((d:Nat):Int)<(n:Int):=by omega
   have x0:((c:Nat):Int)<(n:Int):=by omega
   have z1:(0:Int)≤((d:Nat):Int):=by omega
   have z0:(0:Int)≤((c:Nat):Int):=by omega
   have q1:(d*22=0∧22=n*22)=False:=eq_false (by omega)
   have q0:(c*22=0∧22=n*22)=False:=eq_false (by omega)
   have l0:=henc.cel x;have l1:=henc.cel y;change _=22 at l0;change _=22 at l1;refine Ab (an @s0 (an @s1 (an @s2 (an @s3 (an @s4 (an @s18 (an @s19 (an @s22 (an @s20 (an @s21 (an @xx (an @ww (an @hs2 (an @wh (an @wd (an @x1 (an @x0 (An @z1 @z0 @hF @a1 @a0 @b1 @b0 @q1 @q0 @l0 @l1)))))))))))))))))) ?_;refine cp kc ?_;cases hlf:As y x with
   | false=>
    have hc:¬F3 y.rank x.rank y.dig x.dig<0:=of_decide_eq_false hlf;refine Ab (an @s0 (An @s1 @s2 @s3 @s4 @s18 @s19 @s22 @s20 @s21 @hc @wh1)) ?_;exact Aj (r-(c+1)) (by omega) ⟨Aa,Aa,Aa,Aa,Aa,Aa,Aa,Aa,rfl,c+1,r,Aa,Aa,by omega,by omega,f3,(fun c' x' y' h1 h2 hx' hy'=>by
     by_cases e:c'=c
     ·subst e;rw[gx]at hx';rw[←hd,gy]at hy';cases hx';cases hy';exact hlf
     ·cases e2:As y' x' with
      |false=>rfl
      |true=>
       have :=Cw.trans (Cw.trans (HU Cw hY gy hy' (by omega)) e2) (HU Cw hX hx' gx (by omega))
       rw[hlf]at this;cases this),hhi,rfl⟩
   | true=>
    have hc:F3 y.rank x.rank y.dig x.dig<0:=of_decide_eq_true hlf;refine Ab (An @s0 @s1 @s2 @s3 @s4 @s18 @s19 @s22 @s20 @s21 @hc) ?_;exact Aj (c-s) (by omega) ⟨Aa,Aa,Aa,Aa,Aa,Aa,Aa,Aa,rfl,s,c,Aa,Aa,f1,by omega,by omega,hlo,(fun c' x' y' h1 h2 hx' hy'=>by
     by_cases e:c'=c
     ·subst e;rw[gx]at hx';rw[←hd,gy]at hy';cases hx';cases hy';exact hlf
     ·exact Cw.trans (Cw.trans (HU Cw hY hy' gy (by omega)) hlf) (HU Cw hX gx hx' (by omega))),rfl⟩
  ·obtain rfl:s=r:=by omega
   have xx:¬(s:Int)<(s:Int):=by omega
   obtain⟨en,hen⟩:∃en,en=nn-s:=⟨_,rfl⟩
   have wen:IntKind.i64.wrap ((nn:Int)-(s:Int))=(en:Int):=by rw[wrap64 (by omega) (by omega)];omega
   refine Ab (an @s0 (An @s1 @s2 @s3 @s4 @s18 @s19 @s22 @s20 @s21 @xx @wen)) ?_;refine hKt _ _ ⟨Aa,Aa,Aa,Aa,Aa,Aa,rfl,s,en,Aa,Aa,by omega,by omega,by omega,by omega,by omega,?_⟩
   refine Zfj Cw (by rw[List.take_append_drop];exact hX) (by rw[List.take_append_drop];exact hY) (fun V x W y hx hy=>?_) (fun V y W x hy hx=>?_)
   ·obtain⟨p1,p2⟩:=No hx (by omega)
    have p3:=Xw hy;have hyl:=(List.getElem?_eq_some_iff.1 p3).1
    have :=hlo (s-1) x y (by omega) (by omega) (by rw[show s-1-a=s-a-1 by omega];exact p2) (by rw[show nn-1-(s-1)-m=en-m by omega];exact p3)
    rcases hT.tri y (List.mem_append.2 (.inr (List.mem_of_getElem? p3))) x (List.mem_append.2 (.inl (List.mem_of_getElem? p2))) this with e|e
    ·exfalso
     exact(List.nodup_append.1 hT.nodup).2.2 x (List.mem_of_getElem? p2) y (List.mem_of_getElem? p3) e.symm
    ·exact e
   ·obtain⟨p1,p2⟩:=No hy (by omega)
    have p3:=Xw hx;have hxl:=(List.getElem?_eq_some_iff.1 p3).1
    exact hhi s x y (Nat.le_refl _) (by omega) p3 (by rw[show nn-1-s-m=en-m-1 by omega];exact p2)
 clear s0 s1 s2 s3 s4 s18 s19 s20 s21 s22 d1 d2 d3 d4 d5 d6 d7;rintro e S ⟨s0,s1,s2,s3,s4,s18,rfl,s,en,s20,s24,f1,f2,f3,f4,f5,hcut⟩
 obtain⟨X1,hX1⟩:∃X1,X1=X.take (s-a):=⟨_,rfl⟩
 obtain⟨X2,hX2⟩:∃X2,X2=X.drop (s-a):=⟨_,rfl⟩
 obtain⟨Y1,hY1⟩:∃Y1,Y1=Y.take (en-m):=⟨_,rfl⟩
 obtain⟨Y2,hY2⟩:∃Y2,Y2=Y.drop (en-m):=⟨_,rfl⟩
 have lx1:X1.length=s-a:=by rw[hX1,List.length_take];omega
 have lx2:X2.length=m-s:=by rw[hX2,List.length_drop];omega
 have ly1:Y1.length=en-m:=by rw[hY1,List.length_take];omega
 have ly2:Y2.length=b-en:=by rw[hY2,List.length_drop];omega
 rw[←hX1,←hX2,←hY1,←hY2]at hcut;have eX:X=X1++X2:=by rw[hX1,hX2,List.take_append_drop]
 have eY:Y=Y1++Y2:=by rw[hY1,hY2,List.take_append_drop]
 clear hX1 hX2 hY1 hY2;subst eX eY;obtain⟨ux1,ux2,_⟩:=List.pairwise_append.1 hX;obtain⟨uy1,uy2,_⟩:=List.pairwise_append.1 hY;have t1:Tot As (X1++Y1):=hT.sub (List.Sublist.append (List.sublist_append_left _ _) (List.sublist_append_left _ _));have t2:Tot As (X2++Y2):=hT.sub (List.Sublist.append (List.sublist_append_right _ _) (List.sublist_append_right _ _));have nil_iff:∀{l:List Fa},l.length=0→l=[]:=fun h=>List.eq_nil_of_length_eq_zero h
 refine MW (fun e S=>e 0=.wr 0 n none∧e 1=.it .i64 (a:Int)∧e 3=.it .i64 (b:Int)∧e 4=.fn (.func 181) [] []∧e 18=.it .i64 (mid:Int)∧e 20=.it .i64 (s:Int)∧e 24=.it .i64 (en:Int)∧S=[.row (AA Az (P++X1++Y1++X2++Y2++Q)) 218 22]) ?_ ?_
 ·intro Kt hKt
  by_cases g1:s<m
  ·have g1':(s:Int)<(m:Int):=by omega
   by_cases g2:m<en
   ·have g2':(m:Int)<(en:Int):=by omega
    have kr:=Zcf n s m en (P++X1) X2 Y1 (Y2++Q) (by rw[List.length_append];omega) (by rw[List.length_append];omega) (by rw[List.length_append];omega) (fun h=>by rw[h,List.length_nil]at lx2;omega) (fun h=>by rw[h,List.length_nil]at ly1;omega) hl (by rw[←hYl];simp)
    rw[show P++X1++X2++Y1++(Y2++Q)=P++(X1++X2)++(Y1++Y2)++Q by simp,show P++X1++Y1++X2++(Y2++Q)=P++X1++Y1++X2++Y2++Q by simp]at kr
    refine Ab (A7 @s0 @s2 @s4 @s20 @s24 @g1' @g2') ?_;refine AZ kr ?_;refine run ?_;exact hKt _ _ ⟨Aa,Aa,Aa,Aa,Aa,Aa,Aa,rfl⟩
   ·have g2':¬(m:Int)<(en:Int):=by omega
    have e0:Y1=[]:=nil_iff (by omega)
    refine Ab (A7 @s0 @s2 @s4 @s20 @s24 @g1' @g2') ?_;exact hKt _ _ ⟨Aa,Aa,Aa,Aa,Aa,Aa,Aa,by rw[e0];simp⟩
  ·have g1':¬(s:Int)<(m:Int):=by omega
   have e0:X2=[]:=nil_iff (by omega)
   refine Ab (A6 @s0 @s2 @s4 @s20 @s24 @g1') ?_;exact hKt _ _ ⟨Aa,Aa,Aa,Aa,Aa,Aa,Aa,by rw[e0];simp⟩
 clear s0 s1 s2 s3 s4 s18 s20 s24;rintro e S ⟨s0,s1,s3,s4,s18,s20,s24,rfl⟩
 refine MW (fun e S=>e 0=.wr 0 n none∧e 3=.it .i64 (b:Int)∧e 4=.fn (.func 181) [] []∧e 18=.it .i64 (mid:Int)∧e 24=.it .i64 (en:Int)∧S=[.row (AA Az (P++AY As (X1++Y1)++X2++Y2++Q)) 218 22]) ?_ ?_
 ·intro Kt hKt
  by_cases g1:a<s
  ·have g1':(a:Int)<(s:Int):=by omega
   by_cases g2:s<mid
   ·have g2':(s:Int)<(mid:Int):=by omega
    have kr:=ih P X1 Y1 (X2++Y2++Q) a s mid (by omega) ha (by omega) (by omega) (fun h=>by rw[h,List.length_nil]at lx1;omega) (fun h=>by rw[h,List.length_nil]at ly1;omega) ux1 uy1 t1 (by rw[←hYl];simp only[List.length_append];omega)
    rw[show P++X1++Y1++(X2++Y2++Q)=P++X1++Y1++X2++Y2++Q by simp,show P++AY As (X1++Y1)++(X2++Y2++Q)=P++AY As (X1++Y1)++X2++Y2++Q by simp]at kr
    refine Ab (A7 @s0 @s1 @s4 @s18 @s20 @g1' @g2') ?_;refine AZ kr ?_;refine run ?_;exact hKt _ _ ⟨Aa,Aa,Aa,Aa,Aa,rfl⟩
   ·have g2':¬(s:Int)<(mid:Int):=by omega
    have e0:Y1=[]:=nil_iff (by omega)
    have e1:AY As (X1++Y1)=X1++Y1:=GE (.refl _) (by rw[e0,List.append_nil];exact ux1)
    refine Ab (A7 @s0 @s1 @s4 @s18 @s20 @g1' @g2') ?_;exact hKt _ _ ⟨Aa,Aa,Aa,Aa,Aa,by rw[e1];simp⟩
  ·have g1':¬(a:Int)<(s:Int):=by omega
   have e0:X1=[]:=nil_iff (by omega)
   have e1:AY As (X1++Y1)=X1++Y1:=GE (.refl _) (by rw[e0,List.nil_append];exact uy1)
   refine Ab (A6 @s0 @s1 @s4 @s18 @s20 @g1') ?_;exact hKt _ _ ⟨Aa,Aa,Aa,Aa,Aa,by rw[e1];simp⟩
 clear s0 s1 s3 s4 s18 s20 s24;rintro e S ⟨s0,s3,s4,s18,s24,rfl⟩
 have lsr:(AY As (X1++Y1)).length=X1.length+Y1.length:=by rw[Gc,List.length_append]
 have hres:∀R,R.Perm (X2++Y2)→Up As R→AY As (X1++X2++(Y1++Y2))=AY As (X1++Y1)++R:=fun R hR hu=>by
  refine GE ?_ (ZaB (JX t1) hu (GD _) hR hcut)
  refine((GD _).append hR).trans ?_
  rw[List.append_assoc,List.append_assoc];refine List.Perm.append_left X1 ?_
  rw[←List.append_assoc,←List.append_assoc];exact List.Perm.append_right Y2 List.perm_append_comm
 by_cases g1:mid<en
 ·have g1':(mid:Int)<(en:Int):=by omega
  by_cases g2:en<b
  ·have g2':(en:Int)<(b:Int):=by omega
   have kr:=ih (P++AY As (X1++Y1)) X2 Y2 Q mid en b (by omega) (by rw[List.length_append];omega) (by omega) (by omega) (fun h=>by rw[h,List.length_nil]at lx2;omega) (fun h=>by rw[h,List.length_nil]at ly2;omega) ux2 uy2 t2 (by rw[←hYl];simp only[List.length_append];omega)
   rw[show P++AY As (X1++X2++(Y1++Y2))++Q=P++AY As (X1++Y1)++AY As (X2++Y2)++Q by rw[hres _ (GD _) (JX t2)];simp only[List.append_assoc]]
   refine Ab (A7 @s0 @s3 @s4 @s18 @s24 @g1' @g2') ?_;refine AZ kr ?_;refine run ?_;exact CO (Fv henc _ _ _ _)
  ·have g2':¬(en:Int)<(b:Int):=by omega
   have e0:Y2=[]:=nil_iff (by omega)
   rw[show P++AY As (X1++X2++(Y1++Y2))++Q=P++AY As (X1++Y1)++X2++Y2++Q by rw[hres (X2++Y2) (.refl _) (by rw[e0,List.append_nil];exact ux2)];simp only[List.append_assoc]]
   refine Ab (A7 @s0 @s3 @s4 @s18 @s24 @g1' @g2') ?_;exact CO (Fv henc _ _ _ _)
 ·have g1':¬(mid:Int)<(en:Int):=by omega
  have e0:X2=[]:=nil_iff (by omega)
  rw[show P++AY As (X1++X2++(Y1++Y2))++Q=P++AY As (X1++Y1)++X2++Y2++Q by rw[hres (X2++Y2) (.refl _) (by rw[e0,List.nil_append];exact uy2)];simp only[List.append_assoc]]
  refine Ab (A6 @s0 @s3 @s4 @s18 @s24 @g1') ?_;exact CO (Fv henc _ _ _ _)
theorem SK(n:Nat)(hl:n≤1000):∀k,RG n k
 |0=>fun P X Y Q a m b hk _ _ _ hX _ _ _ _ _=>absurd (List.eq_nil_of_length_eq_zero (by omega)) hX
 |k+1=>Za0 n hl k (SK n hl k)
end Pe
end
section
namespace Pe
open Tryz
open Go Go.RowKit Co Sg Ac It Sl Tp Sr
set_option maxRecDepth 100000
set_option maxHeartbeats 4000000
theorem Qt(n a b:Nat)(P X Q:List Fa)(ha:P.length=a)(hb:a+X.length=b)(hl:n≤1000)(hT:Tot As X)(hn:(P++X++Q).length=n):
  AC prog 309 [.wr 0 n none,.it .i64 (a:Int),.it .i64 (b:Int),.fn (.func 181) [] []]
   [.row (AA Az (P++X++Q)) 218 22] (.tup []) [.row (AA Az (P++AY As X++Q)) 218 22]:=by
 subst ha hb;exact ZeV n P X Q (by simpa only[List.length_append] using hn) hl hT
theorem Zbd:AY As ([]:List Fa)=[]:=GE (.refl _) .nil
theorem Za9(n:Nat)(M:List Fa)(hn:M.length=n)(hl:n<40)(hT:Tot As M):AC prog 269 [.wr 0 n none,.it .i64 (n:Int),.fn (.func 181) [] []] [.row (AA Az M) 218 22] (.tup []) [.row (AA Az (AY As M)) 218 22]:=by
 have henc:=Hz;by_cases h20:n<20
 ·have k:=Qt n 0 n [] M [] rfl (by omega) (by omega) hT (by simpa using hn)
  simp only[List.nil_append,List.append_nil]at k;have h1:¬(20:Int)≤(n:Int):=by omega
  have h2:¬(20:Int)<(n:Int):=by omega
  refine Ah [] [] func269 ?_;refine run ?_;refine Fz ?_
  refine Ab @h1 ?_;refine AZ k ?_;refine run ?_;refine Fz ?_
  refine Ab @h2 ?_;exact CO (Fv henc _ _ _ _)
 ·have hsp:=List.take_append_drop 20 M
  have ht:(M.take 20).length=20:=by rw[List.length_take];omega
  have hd:(M.drop 20).length=n-20:=by rw[List.length_drop];omega
  have t1:Tot As (M.take 20):=hT.sub (List.take_sublist _ _);have t2:Tot As (M.drop 20):=hT.sub (List.drop_sublist _ _);have k1:=Qt n 0 20 [] (M.take 20) (M.drop 20) rfl (by omega) (by omega) t1 (by rw[List.nil_append,hsp,hn])
  have k2:=Qt n 20 n (AY As (M.take 20)) (M.drop 20) [] (by rw[Gc];exact ht) (by omega) (by omega) t2 (by rw[List.append_nil,List.length_append,Gc];omega)
  simp only[List.nil_append,List.append_nil,hsp]at k1 k2;have h1:(20:Int)≤(n:Int):=by omega
  have h2:¬(40:Int)≤(n:Int):=by omega
  have h3:¬(40:Int)<(n:Int):=by omega
  have hp:(AY As (M.take 20)++AY As (M.drop 20)).Perm M:=((GD _).append (GD _)).trans (by rw[hsp])
  by_cases hg:n=20
  ·have hd0:M.drop 20=[]:=List.eq_nil_of_length_eq_zero (by omega)
   have hr:AY As M=AY As (M.take 20)++AY As (M.drop 20):=GE hp (by rw[hd0,Zbd,List.append_nil];exact JX t1)
   rw[hr];have h4:¬(20:Int)<(n:Int):=by omega
   refine Ah [] [] func269 ?_;refine run ?_;refine Ic fun K hK=>?_
   refine Ab @h1 ?_;refine AZ k1 ?_;refine run ?_;refine hK _ _ ?_
   refine Ab @h2 ?_;refine AZ k2 ?_;refine run ?_;refine Fz ?_
   refine Ab @h4 ?_;exact CO (Fv henc _ _ _ _)
  ·have k3:=SK n (by omega) 40 [] (AY As (M.take 20)) (AY As (M.drop 20)) [] 0 20 n (by rw[Gc,Gc];omega) rfl (by rw[Gc];omega) (by rw[Gc];omega) (fun e=>by have :=congrArg List.length e;rw[Gc,List.length_nil]at this;omega) (fun e=>by have :=congrArg List.length e;rw[Gc,List.length_nil]at this;omega) (JX t1) (JX t2) (hT.perm hp.symm) (by simp only[List.length_append,Gc,List.length_nil];omega)
   have hr:AY As (AY As (M.take 20)++AY As (M.drop 20))=AY As M:=GE ((GD _).trans hp.symm) (JX hT);simp only[List.nil_append,List.append_nil,hr]at k3;have h4:(20:Int)<(n:Int):=by omega
   refine Ah [] [] func269 ?_;refine run ?_;refine Ic fun K hK=>?_
   refine Ab @h1 ?_;refine AZ k1 ?_;refine run ?_;refine hK _ _ ?_
   refine Ab @h2 ?_;refine AZ k2 ?_;refine run ?_;refine Ic fun K hK=>?_
   refine Ab @h4 ?_;refine Fz ?_
   refine Ab @h2 ?_;refine AZ k3 ?_;refine run ?_;refine hK _ _ ?_
   refine Ab @h3 ?_;exact CO (Fv henc _ _ _ _)
theorem Zbi(n:Nat)(M:List Fa)(hn:M.length=n)(hl:n<40)(hT:Tot As M):AC prog 180 [.wr 0 n none,.fn (.func 181) [] []] [.row (AA Az M) 218 22] (.tup []) [.row (AA Az (AY As M)) 218 22]:=by
 have k:=Za9 n M hn hl hT;refine Ah [] [] func180 ?_;refine run ?_;refine AZ k ?_;refine run ?_;exact CO (Fv Hz _ _ _ _)
end Pe
end
section
namespace Pe
open Tryz
open Go Go.RowKit
variable [Tab]
def JL(κ:List Nat)(E e:Af):Prop:=∀t,E t=.junk∨((E t).ok κ.length=true∧e t=(E t).ren (AH κ))
theorem JL.nil(κ:List Nat)(e:Af):JL κ (fun _=>.junk) e:=fun _=>.inl rfl
theorem JL.cons{κ:List Nat}{E e:Af}(h:JL κ E e)(t:Nat)(v u:AV)(hk:v.ok κ.length=true)(hu:v.ren (AH κ)=u)(hv:e t=u):JL κ (Bv E t v) e:=fun x=>by
 unfold Bv;by_cases hx:x=t
 ·rw[if_pos hx,hx];exact .inr ⟨hk,hv.trans hu.symm⟩
 ·rw[if_neg hx];exact h x
theorem Ao.sub(N0:Nat){E e:Af}{S S':Ae}(κ:List Nat)(hE:JL κ E e)(hs:SubOk κ S S')(hκ:κ.take N0=List.range N0):Ao N0 e S E S':=by
 rintro N w0 g0 a w hn ⟨h1,h2,g,h3,h4,h5⟩
 refine⟨h1,h2,g.sub κ,h3.sub hs,fun t=>?_,⟨h5.toEvo.sub hs.nodup (hs.lt h3) (by rw[hn];exact hκ),?_,?_⟩⟩
 ·rcases hE t with e1|⟨e1,e2⟩
  ·rw[e1];exact .junk _ _
  ·have :=h4 t
   rw[e2]at this;exact Rel.unren (GZ w g κ) this e1
 ·intro d hd
  obtain⟨b,k1,k2,k3,k4,k5⟩:=h5.defs d hd;exact⟨b,k1,k2,k3,k4,fun l hl ho=>k5 (AH κ l) (hs.lt h3 l hl) ho⟩
 ·exact h5.nodup
end Pe
end
section
namespace Pe
open Tryz
open Go Go.RowKit
variable [Tab] {P:Program}
theorem Ao.reserveN[Tab](N0:Nat){e:Af}{S:Ae}(l i:Nat){cs es:List AV}(hS:S[l]? = some (.cells cs))(hi:cs[i]? = some (.sl .full es))(ty:TypeId)(sz:Nat):Ao N0 e S e (S.set l (.cells (cs.set i (.sl (.own S.length) es)))++[.buf es.length ty sz]):=by
 rintro N w0 g0 a w hn ⟨h1,h2,g,h3,h4,h5⟩
 obtain⟨g',h6,h7,h8,h9,h10⟩:=h3.reserve es.length ty sz;have hlS:=(List.getElem?_eq_some_iff.1 hS).1
 have hic:=(List.getElem?_eq_some_iff.1 hi).1
 have hn3:=h3.nid;have hn6:=h6.nid;rw[List.length_append,List.length_singleton]at hn6;refine⟨h1,h2,g',⟨by rw[List.length_append,List.length_set,List.length_singleton];exact hn6,fun k o hk=>?_,h6.disj,h6.lt,h6.tab⟩,fun t=>(h4 t).le h7.toLe,h5.trans h7⟩
 by_cases hkl:k=l
 ·subst hkl
  rw[List.getElem?_append_left (by rw[List.length_set];exact hlS),List.getElem?_set_self hlS]at hk
  cases hk
  obtain⟨k1,k2,k3,arr,T,fr,k4,k5,k6,k7,k8⟩:=h6.obj k (.cells cs) (Jo hS _);refine⟨k1,k2,k3,arr,T,fr,k4,k5,by rw[List.length_set];exact k6,k7,fun j u v hu hv=>?_⟩
  by_cases hj:j=i
  ·subst hj
   rw[List.getElem?_set_self hic]at hu
   cases hu
   refine(k8 j _ v hi hv).own_full (by omega) ?_ ?_
   ·rw[←hn3];exact h9
   ·rw[←hn3];exact h10
  ·rw[List.getElem?_set_ne (Ne.symm hj)]at hu
   exact k8 j u v hu hv
 ·refine h6.obj k o ?_
  by_cases hkS:k<S.length
  ·rw[List.getElem?_append_left (by rw[List.length_set];exact hkS),List.getElem?_set_ne (Ne.symm hkl)]at hk
   rw[List.getElem?_append_left hkS]
   exact hk
  ·rw[List.getElem?_append_right (by rw[List.length_set];omega),List.length_set]at hk
   rw[List.getElem?_append_right (by omega)]
   exact hk
def Y5(E e:Af):Prop:=∀t,E t=e t∨E t=.junk
theorem Y5.nil(e:Af):Y5 (fun _=>.junk) e:=fun _=>.inr rfl
theorem Ao.trans2{N0:Nat}{e e1 e2:Af}{S S1 S2:Ae}(h:Ao N0 e S e1 S1)(h':Ao N0 e1 S1 e2 S2):Ao N0 e S e2 S2:=fun N w0 g0 a w hn hc=>h' N w0 g0 a w hn (h N w0 g0 a w hn hc)
end Pe
end
section
namespace Pe
open Tryz
open Go Go.RowKit Co Sg Ac It Sl Tp Sr
set_option maxRecDepth 100000
set_option maxHeartbeats 4000000
section
variable {P:Program} {f:FuncId} {xs:List AV} {v:AV} {o o':SObj} {T:Ae}
theorem D4{pf rf:List FuncId}{e:Af}{d:Option Nat}{rest:List AO}{K:Af→Ae→Prop}{args gargs:List AV}(l:Nat)(h:AC P f args [o] v [o'])(h':BA P pf rf rest (put e d v) (T.set l o') K)
  (ho:o.ok 0=true)(ho':o'.ok 0=true)(hT:T[l]? = some o:=by rfl)(hg:gargs.map AV.wk=args.map (AV.ren (AH [l])):=by rfl)(ha:args.all (AV.ok 1)=true:=by rfl)(hv:v.ok 0=true:=by rfl):
  DG (KI P f gargs T) (F8 P pf rf d rest e K):=
 AZ (show AC P f (gargs.map AV.wk) T v (T.set l o') by
  have :=h.at1 (T:=T) l (by rw[G1 ho];exact hT) ha (Fx hv (Nat.zero_le 1)) (H4 ho) (H4 ho')
  rwa[JS hv,G1 ho',←hg]at this) h'
end
def IM(n:Nat)(E e:Af):Prop:=∀t,E t=.junk∨((E t).ok n=true∧e t=E t)
theorem IM.nil(n:Nat)(e:Af):IM n (fun _=>.junk) e:=fun _=>.inl rfl
theorem IM.cons{n:Nat}{E e:Af}(h:IM n E e)(t:Nat)(v:AV)(hv:e t=v)(hk:v.ok n=true:=by rfl):IM n (Bv E t v) e:=fun x=>by
 unfold Bv;by_cases hx:x=t
 ·rw[if_pos hx,hx];exact .inr ⟨hk,hv⟩
 ·rw[if_neg hx];exact h x
theorem Ao.pre(N0:Nat){E e:Af}{S' T:Ae}(hE:IM S'.length E e)(hok:S'.all (SObj.ok S'.length)=true)(hN:N0≤S'.length:=by exact Nat.le_of_ble_eq_true rfl):Ao N0 e (S'++T) E S':=by
 have hid:∀i,i<S'.length→AH (List.range S'.length) i=i:=fun i hi=>by
  simp[AH,hi]
 refine Ao.sub N0 (List.range S'.length) (fun t=>?_) ⟨List.nodup_range,by simp,fun i o hi=>?_⟩ (by rw[List.take_range,Nat.min_eq_left hN])
 ·rcases hE t with h|⟨h1,h2⟩
  ·exact .inl h
  ·exact .inr ⟨by rw[List.length_range];exact h1,by rw[DR h1 hid];exact h2⟩
 ·have hlt:=(List.getElem?_eq_some_iff.1 hi).1
  have ho:o.ok S'.length=true:=List.all_eq_true.1 hok o (List.mem_of_getElem? hi);rw[List.length_range,hid i hlt];exact⟨ho,by rw[Nm ho hid,List.getElem?_append_left hlt];exact hi⟩
theorem Ziu(it:It.Item)(id:By):AC prog 108 [Be it,.ptr 0 0] [.cells [.st id]] (.tup [Am it.act,.it .i64 it.act.seq,.bo (it.kind==0&&it.act.author==id)]) [.cells [.st id]]:=by
 cases hk:(it.kind==0)with
 |true=>
  rw[Bool.true_and];generalize hb:(it.act.author==id)=b at *;refine AC.hw 21 func108 rfl (by decide) (Nat.le_of_ble_eq_true rfl) rfl ?_
  refine HW.seq (HW.aw [] [] (by decide) (by kernel_rfl) ?_)
  refine AD ?_
  refine run ?_;refine HW.seq (HW.spec [] [] [0,1] [7,10,12,17,18] [] (by decide) (by decide +kernel) (by decide +kernel) ?_)
  refine AD ?_
  repeat (refine g4 (by rfl) ?_;(first|refine B6 ?_|refine a4 ?_);refine runf4 (an @hb @hk) ?_;(first|refine EN ?_|refine EM ?_))
  refine FD ?_
  refine HW.aw [] [] (by decide) (by kernel_rfl) ?_
  refine AD ?_
  refine run ?_;exact Ov
 |false=>
  rw[Bool.false_and];refine AC.hw 21 func108 rfl (by decide) (Nat.le_of_ble_eq_true rfl) rfl ?_
  refine HW.seq (HW.aw [] [] (by decide) (by kernel_rfl) ?_)
  refine AD ?_
  refine run ?_;refine HW.seq (HW.spec [] [] [0,1] [7,10,12,17,18] [] (by decide) (by decide +kernel) (by decide +kernel) ?_)
  refine AD ?_
  repeat (refine g4 (by rfl) ?_;(first|refine B6 ?_|refine a4 ?_);refine runf4 @hk ?_;(first|refine EN ?_|refine EM ?_))
  repeat (refine VW (by rfl) ?_)
  repeat (refine g4 (by rfl) ?_;(first|refine B6 ?_|refine a4 ?_);refine runf4 @hk ?_;(first|refine EN ?_|refine EM ?_))
  refine FD ?_
  refine HW.aw [] [] (by decide) (by kernel_rfl) ?_
  refine AD ?_
  refine run ?_;exact Ov
def Jl(id:By)(it:It.Item):Bool:=it.kind==0&&it.act.author==id&&It.right it
def EO(l:List It.Item)(id:By):List Fa:=(l.filter (Jl id)).map fun it=>⟨it.act.seq,It.digest it,it.act⟩
def KD(l:List It.Item)(id:By):List Ac.Act:=(AY As (EO l id)).map (·.val)
theorem Zdg(ps:List Int)(l:List It.Item)(id:By)(hl:l.length≤1000)(hz:∀x∈l,Iz x)(hf:(EO l id).length<40)(hd:(l.map It.digest).Nodup):
  AC prog 107 [EK ps l,.fn (.func 108) [] [.ptr 0 0]] [.cells [.st id]] (Bu (KD l id)) [.cells [.st id]]:=by
 have hsz:=Ji l;have henc:=Hz;have hT:Tot As (EO l id):=ZaI (by
  unfold EO;rw[List.map_map];exact hd.sublist ((List.filter_sublist).map _))
 have ksort:=Zbi _ (EO l id) rfl hf hT;have hlen:=Gc (lt:=As) (EO l id);have hstep:∀k (h:k<l.length),EO (l.take (k+1)) id=EO (l.take k) id++if Jl id l[k]=true then [⟨l[k].act.seq,It.digest l[k],l[k].act⟩]else []:=fun k h=>by
  unfold EO;rw[List.take_succ_eq_append_getElem h,List.filter_append,List.map_append];congr 1
  simp only[List.filter_cons,List.filter_nil];split<;>rfl
 unfold KD;refine Ah [39,19] [] func107 ?_;refine run ?_;refine Cq (fun m e S=>e 1=.fn (.func 108) [] [.ptr 0 0]∧e 15=.sl .ro (l.map Be)∧e 16=.it .i64 (l.length:Int) ∧ ∃(k:Nat) (out:List Fa) (T:Ae),e 17=.it .i64 (k:Int)∧e 5=.wr 2 out.length none∧S=.cells [.st id]::.cells [AP ps,.sl .ro (l.map Be)]::.row (AA Az out) 218 22::T∧out=EO (l.take k) id∧k≤l.length∧m=l.length-k) l.length _ _ (Ao.reserveRowT 1 5 (by rfl) 218 (sz:=22) (by decide))
  ⟨Aa,Aa,Aa,0,[],[],Aa,Aa,rfl,rfl,by omega,rfl⟩ ?_
 rintro m e S ⟨s1,s15,s16,k,out,T,s17,s5,rfl,hout,hk,rfl⟩
 have hT1:∀y:SObj,(T++[y])[T.length]? = some y:=fun y=>by simp
 have hT2:∀y z:SObj,(T++[y]).set T.length z=T++[z]:=fun y z=>by simp
 have hT3:∀y z:SObj,(T++[y]++[z])[T.length]? = some y:=fun y z=>by simp
 have hT4:∀y z:SObj,(T++[y]++[z])[T.length+1]? = some z:=fun y z=>by simp
 have hT5:∀y z u:SObj,(T++[y]++[z]).set (T.length+1) u=T++[y]++[u]:=fun y z u=>by simp
 by_cases hlt:k<l.length
 ·have hg:l[k]? = some l[k]:=List.getElem?_eq_getElem hlt
  have hlt':(k:Int)<(l.length:Int):=by omega
  have w1:=AT (k:=k) (by omega)
  have hst:=hstep k hlt;rw[←hout]at hst;have izk:=hz l[k] (List.getElem_mem hlt);generalize l[k]=it at *;have k1:=Ziu it id;have k2:=LD it izk;have k3:=Ku it izk;have hF:=E2 henc out;have hol:out.length≤1000:=by
   rw[hout];unfold EO;rw[List.length_map];have :=List.length_filter_le (Jl id) (l.take k);rw[List.length_take]at this;omega
  have hfit:CM (out.length+1) 288=true:=by unfold CM;simp only[Bool.and_eq_true,decide_eq_true_eq];omega
  refine Ab (BZ @s1 @s15 @s16 @s17 @s5 @hlt' @hg @hsz @hT1 @hT2) ?_;refine cl (xs:=[Be it]) 0 k1 ?_;unfold Jl at hst;cases hb:(it.kind==0&&it.act.author==id)with
  |false=>
   rw[hb,Bool.false_and,if_neg (by decide),List.append_nil]at hst
   refine Ab (an @s1 (An @s15 @s16 @s17 @s5 @hb @w1 @hT1 @hT2 @hT3 @hT4 @hT5)) ?_;exact Aj (l.length-(k+1)) (by omega) ⟨Aa,Aa,Aa,k+1,out,_,Aa,Aa,rfl,hst.symm,by omega,rfl⟩
  | true=>
   rw[hb,Bool.true_and]at hst;cases hr:It.right it with
   |false=>
    rw[hr,if_neg (by decide),List.append_nil]at hst
    rw[hr]at k2;refine Ab (an @s1 (An @s15 @s16 @s17 @s5 @hb @w1 @hT1 @hT2 @hT3 @hT4 @hT5)) ?_;refine cp k2 ?_;refine Ab (an @s1 (An @s15 @s16 @s17 @s5 @hb @w1 @hT1 @hT2 @hT3 @hT4 @hT5)) ?_;exact Aj (l.length-(k+1)) (by omega) ⟨Aa,Aa,Aa,k+1,out,_,Aa,Aa,rfl,hst.symm,by omega,rfl⟩
   | true=>
    rw[hr,if_pos rfl]at hst;rw[hr]at k2;generalize It.digest it=d at *;refine Ab (an @s1 (An @s15 @s16 @s17 @s5 @hb @w1 @hT1 @hT2 @hT3 @hT4 @hT5)) ?_;refine cp k2 ?_;refine Ab (an @s1 (An @s15 @s16 @s17 @s5 @hb @w1 @hT1 @hT2 @hT3 @hT4 @hT5)) ?_;refine cp k3 ?_;refine Ab (an @s1 (an @s15 (an @s16 (An @s17 @s5 @hb @w1 @hT1 @hT2 @hT3 @hT4 @hT5 @hF @hfit)))) ?_;have hrow:AA Az out++Ak [ZfD it.act d]=AA Az (out++[⟨it.act.seq,d,it.act⟩]):=by
     rw[PF,TA];rfl
    rw[hrow];exact Aj (l.length-(k+1)) (by omega) ⟨Aa,Aa,Aa,k+1,out++[⟨it.act.seq,d,it.act⟩],_,Aa,by rw[List.length_append];exact Aa,rfl,hst.symm,by omega,rfl⟩
 ·obtain rfl:k=l.length:=by omega
  rw[List.take_length]at hout;subst hout;have hlt':¬(l.length:Int)<(l.length:Int):=by omega
  refine Ab (A6 @s1 @s15 @s16 @s17 @s5 @hlt') ?_;refine D4 2 ksort ?_ (LC henc _ _ _ _) (LC henc _ _ _ _)
  refine Ab (A5 @s1 @s15 @s16 @s17 @s5) ?_;generalize AY As (EO l id)=M at *;have hML:M.length<40:=by omega
  rw[←hlen];clear ksort;refine Cq (fun m e S=>e 47=.wr 2 M.length none∧e 48=.it .i64 (M.length:Int) ∧ ∃(k:Nat) (T:Ae),e 49=.it .i64 (k:Int)∧e 11=.sl (.own 3) ((M.take k).map fun p=>Am p.val)∧S=.cells [.st id]::.cells [AP ps,.sl .ro (l.map Be)]::.row (AA Az M) 218 22::.buf (M.take k).length 45 20::T∧k≤M.length∧m=M.length-k) M.length (Bv (Bv (Bv (Bv (fun _=>.junk) 47 (.wr 2 M.length none)) 48 (.it .i64 (M.length:Int))) 49 (.it .i64 0)) 11 (.sl (.own 3) [])) [.cells [.st id],.cells [AP ps,.sl .ro (l.map Be)],.row (AA Az M) 218 22,.buf 0 45 20] ?_
   ⟨Aa,Aa,0,[],Aa,Aa,rfl,by omega,rfl⟩ ?_
  ·refine Ao.sub 1 [0,1,2,T.length+3] (((((JL.nil _ _).cons 47 (.wr 2 M.length none) (.wr 2 M.length none) rfl rfl Aa).cons 48 (.it .i64 (M.length:Int)) _ rfl rfl Aa).cons 49 (.it .i64 0) _ rfl rfl Aa).cons 11 (.sl (.own 3) []) (.sl (.own (T.length+3)) []) rfl rfl Aa) ⟨?_,rfl,fun i o hi=>?_⟩ rfl
   ·simp
   ·match i,hi with
    |0,hi=>cases hi;exact⟨rfl,rfl⟩
    |1,hi=>cases hi;exact⟨rfl,rfl⟩
    |2,hi=>cases hi;exact⟨LC henc M _ _ 4,by rw[G1 (LC henc M _ _ 0)];rfl⟩
    |3,hi=>
     cases hi
     refine⟨rfl,?_⟩
     show(T++[SObj.buf 0 45 20])[T.length]? = _
     simp
     rfl
  clear s1 s15 s16 s17 s5 hT1 hT2 hT3 hT4 hT5;rintro m e S ⟨s47,s48,k,T,s49,s11,rfl,hk,rfl⟩
  have hT1:∀y:SObj,(T++[y])[T.length]? = some y:=fun y=>by simp
  have hT2:∀y z:SObj,(T++[y]).set T.length z=T++[z]:=fun y z=>by simp
  have hF:=E2 henc M;have hkl:(M.take k).length≤40:=by rw[List.length_take];omega
  by_cases hlt:k<M.length
  ·have hg:M[k]? = some M[k]:=List.getElem?_eq_getElem hlt
   have hlt':(k:Int)<(M.length:Int):=by omega
   have h0:(0:Int)≤(k:Int):=by omega
   have w1:=AT (k:=k) (by omega)
   have ha:=EH henc M k _ hg;have hb:k*22+22≤M.length*22:=by omega
   have htk:M.take (k+1)=M.take k++[M[k]]:=List.take_succ_eq_append_getElem hlt;have hsa:AK 20 ((M.take k).map fun p=>Am p.val)=true:=BG 20 (fun p:Fa=>Am p.val) (fun _=>rfl) _
   generalize M[k]=x at *;change((AA Az M).drop (k*22)).take 22=Cz Az x at ha;have hce:AV.agg (Cz Az x)=.agg [.it .i64 x.rank,.st x.dig,.st x.val.author,.it .i64 x.val.seq,.st x.val.prev,.it .i64 x.val.kind,.it .i64 x.val.time,.st x.val.object,.st x.val.target,.it .i64 x.val.scope,.st x.val.group,Av x.val.to,.st x.val.text,.st x.val.body.nonce,.st x.val.body.data,.st x.val.body.tag,.it .i64 x.val.epoch,.sl .ro (x.val.wraps.map Bj),.it .i64 x.val.n,.it .i64 x.val.m,.it .i64 x.val.sig.e,.it .i64 x.val.sig.s]:=rfl;have hap:(if k*22=0∧22=M.length*22 then some (AV.agg (AA Az M))else some (.agg (Cz Az x)))=some (.agg [.it .i64 x.rank,.st x.dig,.st x.val.author,.it .i64 x.val.seq,.st x.val.prev,.it .i64 x.val.kind,.it .i64 x.val.time,.st x.val.object,.st x.val.target,.it .i64 x.val.scope,.st x.val.group,Av x.val.to,.st x.val.text,.st x.val.body.nonce,.st x.val.body.data,.st x.val.body.tag,.it .i64 x.val.epoch,.sl .ro (x.val.wraps.map Bj),.it .i64 x.val.n,.it .i64 x.val.m,.it .i64 x.val.sig.e,.it .i64 x.val.sig.s]):=by
    rw[←hce];split
    ·rename_i hc
     rw[←ha,hc.1,List.drop_zero,List.take_of_length_le (by omega)]
    ·rfl
   clear hce;refine Ab (an @s47 (an @s48 (an @s49 (an @s11 (An @hlt' @h0 @hg @ha @hF @hb @hap @hT1 @hT2 @hsa @w1))))) ?_;exact Aj (M.length-(k+1)) (by omega) ⟨Aa,Aa,k+1,_,Aa,by rw[htk,List.map_append];exact Aa,by rw[htk,List.length_append];rfl,by omega,rfl⟩
  ·obtain rfl:k=M.length:=by omega
   have hlt':¬(M.length:Int)<(M.length:Int):=by omega
   rw[List.take_length]at s11;refine Ab (A5 @s47 @s48 @s49 @s11 @hlt') ?_;exact WH (hv:=by
    show AV.sl .ro (M.map fun p=>Am p.val)=AV.sl .ro ((M.map (·.val)).map Am)
    rw[List.map_map];rfl)
theorem Zir(ps:List Int)(l:List It.Item)(id:By)(hl:l.length≤1000)(hz:∀x∈l,Iz x)(hf:(EO l id).length<40)(hd:(l.map It.digest).Nodup):
  AC prog 49 [EK ps l,.st id] [] (Bu (KD l id)) []:=by
 have k:=Zdg ps l id hl hz hf hd;refine Ah [] [] func49 ?_;refine run ?_;refine XE 1 k ?_;refine run ?_;exact Au
end Pe
end
section
namespace Pe
open Tryz
open Go Go.RowKit Co Sg Ac It Sl Tp
set_option maxRecDepth 100000
set_option maxHeartbeats 4000000
abbrev E4(n:Int)(s:By):Value:=.agg #[.int .i64 n,.string ⟨s.toArray⟩]
abbrev Ed(n:Int)(s:By):AV:=.agg [.it .i64 n,.st s]
theorem PT{w:World}{g:Gh}{n:Int}{s:By}{cv:Value}(h:Rel w g (Ed n s) cv):cv=E4 n s:=by
 cases h with
 | agg _ _ arr hn h1 hr=>
  have hs:arr.size=2:=by simpa using hn
  have e0:=hr 0 (.it .i64 n) arr[0] rfl (Array.getElem?_eq_getElem (by omega))
  have e1:=hr 1 (.st s) arr[1] rfl (Array.getElem?_eq_getElem (by omega))
  have f0:arr[0]=.int .i64 n:=by
   generalize arr[0]=x at e0;cases e0
   rfl
  have f1:arr[1]=.string ⟨s.toArray⟩:=by
   generalize arr[1]=x at e1;cases e1
   rfl
  congr 1
  apply Array.ext
  ·simpa using hs
  ·intro i hi hi'
   have:i=0∨i=1:=by simp at hi';omega
   rcases this with rfl|rfl
   ·exact f0
   ·exact f1
theorem PU{w:World}{g:Gh}(n:Int)(s:By):Rel w g (Ed n s) (E4 n s):=by
 refine .agg _ _ _ rfl ?_ ?_
 ·intro v hv
  simp at hv
  rcases hv with rfl|rfl<;>rfl
 ·intro j u v hu hv
  match j,hu,hv with
  |0,hu,hv=>cases hu;cases hv;exact .it _ _ _
  |1,hu,hv=>cases hu;cases hv;exact .st _ _
theorem Ue{P:Program}{t:TypeId}(ha:∀w,(isAgg t).run P w=.ok false w){cs:Array Value}{o:Nat}{v:Value}(hv:cs[o]? = some v)(w:World):(part t cs o).run P w=.ok v w:=by
 unfold part;simp[Sem.run_bind,ha,hv]
theorem PV(w:World)(b:Bool)(n:Int)(s:By):(Instr.checkKey b 10000 104 (E4 n s)).run prog w=.ok () w:=by
 have h1:∀w,(Instr.checkKey b 9999 3 (.int .i64 n)).run prog w=.ok () w:=fun w=>Go.MapKept.run_checkKey (d:=.int .i64) underlying3 (show Go.MapKept.IsKey (.int .i64) (.int .i64 n)from rfl) b 9998
 have h2:∀w,(Instr.checkKey b 9999 9 (.string ⟨s.toArray⟩)).run prog w=.ok () w:=fun w=>Go.MapKept.run_checkKey (d:=.string) underlying9 (show Go.MapKept.IsKey .string (.string ⟨s.toArray⟩)from trivial) b 9998
 have p1:∀w,(part 3 #[.int .i64 n,.string ⟨s.toArray⟩] 0).run prog w=.ok (.int .i64 n) w:=fun w=>Ue (fun w=>by simp[Tryz.isAgg3]) rfl w
 have p2:∀w,(part 9 #[.int .i64 n,.string ⟨s.toArray⟩] 1).run prog w=.ok (.string ⟨s.toArray⟩) w:=fun w=>Ue (fun w=>by simp[Tryz.isAgg9]) rfl w
 unfold Instr.checkKey;simp[run_underlying underlying104,Sem.run_bind,Result.andThen,h1,h2,p1,p2]
theorem Zc8(w:World)(n m:Int)(s t:By):(Op.equal 104 (E4 n s) (E4 m t)).run prog w=.ok (n==m&&s==t) w:=by
 have h:FK prog 3 104 (Ed n s) (Ed m t)=some (n==m&&s==t):=by
  simp[FK,GV,apart,Lo,Ln,Ld,KZ,KX,KW,KV,KU,KS,KR,Lm,Ll,Lk,Lj,Li,Lh,Lg,Lf,Lc,Lb,La,K9,K8,K7,K6,K3,KY]
 exact RE (P:=prog) (w:=w) (g:=⟨fun _=>0,fun _=>0,fun _ _=>False,0,fun _=>false,fun _=>0,fun _=>0⟩) 9997 3 104 _ _ _ _ _ h (PU n s) (PU m t)
theorem Zc7(w:World)(n:Int)(s:By):(Instr.findKey 104 (E4 n s) []).run prog w=.ok none w:=by
 simp[Instr.findKey,run_underlying underlying104,Instr.findNow,Result.andThen]
end Pe
end
section
namespace Pe
open Tryz
open Go Go.RowKit Co Sg Ac It Sl Tp
set_option maxRecDepth 100000
set_option maxHeartbeats 4000000
abbrev Dt:=(Int×By)×AV
def C2(n:Int)(s:By):List Dt→Nat→Option Nat
 |[],_=>none
 |p::es,i=>if n==p.1.1&&s==p.1.2 then some i else C2 n s es (i+1)
theorem Vt(n:Int)(s:By):∀(es:List Dt) (i j:Nat),C2 n s es i=some j→i≤j
 |[],_,_,h=>by cases h
 |q::es,i,j,h=>by
  unfold C2 at h;split at h
  ·cases h;exact Nat.le_refl _
  ·exact Nat.le_of_succ_le (Vt n s es _ _ h)
abbrev Dn(es:List Dt):SObj:=.map (es.map fun p=>(Ed p.1.1 p.1.2,p.2))
def Jy(n:Int)(s:By)(es:List Dt):AV:=match C2 n s es 0 with
 |some j=>(es.getD j ((0,[]),.sl .full [])).2
 |none=>.sl .full []
theorem Wt(n:Int)(s:By)(w:World):∀(es:List Dt) (me:List MapEntry) (i:Nat),me.length=es.length→(∀(j:Nat) p x,es[j]? = some p→me[j]? = some x→x.key=E4 p.1.1 p.1.2) →
  (Instr.findAsking 104 (E4 n s) me i).run prog w=.ok ((C2 n s es i).bind fun j=>(me[j-i]?).map fun x=>(j,x.val)) w
 |[],[],i,_,_=>rfl
 |[],x::me,i,h,_=>by simp at h
 |p::es,[],i,h,_=>by simp at h
 | p::es,x::me,i,h,hk=>by
  have h0:=hk 0 p x rfl rfl;have ih:=Wt n s w es me (i+1) (by simpa using h) (fun j p x hp hx=>hk (j+1) p x hp hx)
  obtain⟨key,val,born⟩:=x;simp only at h0
  subst h0;unfold Instr.findAsking C2;simp only[Sem.run_bind,Zc8,Result.andThen_ok];cases hb:(n==p.1.1&&s==p.1.2)with
  |true=>simp
  | false=>
   simp only[Bool.false_eq_true,if_false];rw[ih];congr 1
   cases hj:C2 n s es (i+1)with
   |none=>rfl
   |some j=>
    have :=Vt _ _ _ _ _ hj;simp only[Option.bind_some];rw[show j-i=(j-(i+1))+1 by omega,List.getElem?_cons_succ]
theorem Wr(n:Int)(s:By)(w:World)(es:List Dt)(me:List MapEntry)(h:me.length=es.length)(hk:∀(j:Nat) p x,es[j]? = some p→me[j]? = some x→x.key=E4 p.1.1 p.1.2):
  (Instr.findKey 104 (E4 n s) me).run prog w=.ok ((C2 n s es 0).bind fun j=>(me[j]?).map fun x=>(j,x.val)) w:=by
 have ha:=Wt n s w es me 0 h hk;simp only[Nat.sub_zero]at ha;cases me with
 |nil=>
  cases es with
  |nil=>exact Zc7 w n s
  |cons p es=>simp at h
 |cons x me=>
  simp only[Instr.findKey,run_underlying underlying104,Instr.findNow,Instr.sameNow,Sem.run_bind,Result.andThen_ok];exact ha
theorem T8{w:World}{g:Gh}{es:List Dt}{me:Array MapEntry}(hsz:me.size=(es.map fun p=>(Ed p.1.1 p.1.2,p.2)).length)(hrel:∀(j:Nat) u x,(es.map fun p=>(Ed p.1.1 p.1.2,p.2))[j]? = some u→me[j]? = some x→Rel w g u.1 x.key∧Rel w g u.2 x.val):
  me.toList.length=es.length∧(∀(j:Nat) p x,es[j]? = some p→me.toList[j]? = some x→x.key=E4 p.1.1 p.1.2) ∧ ∀(j:Nat) p x,es[j]? = some p→me[j]? = some x→Rel w g p.2 x.val:=by
 refine⟨by simpa using hsz,fun j p x hp hx=>?_,fun j p x hp hx=>?_⟩
 ·have :=(hrel j (Ed p.1.1 p.1.2,p.2) x (by rw[List.getElem?_map,hp];rfl) (by rw[←Array.getElem?_toList];exact hx)).1
  exact PT this
 ·exact(hrel j (Ed p.1.1 p.1.2,p.2) x (by rw[List.getElem?_map,hp];rfl) hx).2
theorem Mn{o:Oper}{e:Af}{S:Ae}{m k:Operand}{l:Nat}{n:Int}{s:By}{es:List Dt}(ho:o.op=.lookup 98 m k false)(hm:ev e m=.mp l)(hk:ev e k=Ed n s)(hS:S[l]? = some (Dn es)):
  AU prog o e S (Jy n s es) S:=
 C5 fun ρ w g hw hr=>by
  have hrm:=hr m (by rw[ho];simp[Op.operands])
  have hrk:=hr k (by rw[ho];simp[Op.operands])
  rw[hm]at hrm;rw[hk]at hrk;have hkc:=PT hrk;generalize hcm:ρ m=cm at hrm;cases hrm with
  | mp _ _ hl hb=>
   obtain⟨hbf,hown,hG,me,clock,hheap,hsz,hlt,hnd,hrel⟩:=hw.obj l _ hS;obtain⟨m1,m2,m3⟩:=T8 hsz hrel;have hf:=Wr n s w es me.toList m1 m2;have hnil:Rel w g (.sl .full []) (.slice none 0 0):=.sl _ .full [] none 0 0 (fun _=>undef) (Nat.le_refl _) (Nat.zero_le _) (by simp) (fun h=>absurd h (Nat.lt_irrefl 0)) (by simp[Ak]) (by simp[Ak]) rfl
   unfold Jy;cases hj:C2 n s es 0 with
   |none=>
    rw[hj]at hf;refine⟨.slice none 0 0,w,g,?_,hw,hnil,Evo.refl w g⟩
    unfold execOp;simp only[ho,hcm,hkc];simp[Instr.lookup,run_underlying underlying98,Go.MapKept.run_getObj_map hheap,PV,hf]
   | some j=>
    rw [hj]at hf;have hjl:j<es.length:=by
     have:∀(es:List Dt) (i j:Nat),C2 n s es i=some j→j<i+es.length:=by
      intro es;induction es with
      |nil=>intro i j h;cases h
      |cons q es ih=>
       intro i j h;unfold C2 at h;split at h
       ·cases h;simp
       ·have :=ih _ _ h;rw[List.length_cons];omega
     have :=this es 0 j hj;omega
    have hjm:j<me.size:=by simp at m1;omega
    have hx:me[j]? = some me[j]:=Array.getElem?_eq_getElem hjm
    have hp:es[j]? = some es[j]:=List.getElem?_eq_getElem hjl
    have hr2:=m3 j _ _ hp hx;have hd:es.getD j ((0,[]),.sl .full [])=es[j]:=by rw[List.getD_eq_getElem?_getD,hp];rfl
    simp only[hd];refine⟨me[j].val,w,g,?_,hw,hr2,Evo.refl w g⟩
    have hx':me.toList[j]? = some me[j]:=by rw[Array.getElem?_toList];exact hx
    simp only[Option.bind_some,hx',Option.map_some]at hf;unfold execOp;simp only[ho,hcm,hkc];simp[Instr.lookup,run_underlying underlying98,Go.MapKept.run_getObj_map hheap,PV,hf]
theorem ZgD{o:Oper}{e:Af}{S:Ae}{m k:Operand}{l:Nat}{n:Int}{s:By}{es:List Dt}(ho:o.op=.mapEntry 98 m k)(hm:ev e m=.mp l)(hk:ev e k=Ed n s)(hS:S[l]? = some (Dn es))(hf:C2 n s es 0=none):
  AU prog o e S (.tup [.sl .full [],.it .i64 (es.length:Int)]) (S.set l (Dn (es++[((n,s),.sl .full [])]))):=
 C5 fun ρ w g hw hr=>by
  have hrm:=hr m (by rw[ho];simp[Op.operands])
  have hrk:=hr k (by rw[ho];simp[Op.operands])
  rw[hm]at hrm;rw[hk]at hrk;have hkc:=PT hrk;generalize hcm:ρ m=cm at hrm;cases hrm with
  | mp _ _ hl hb=>
   obtain⟨hbf,hown,hG,me,clock,hheap,hsz,hlt,hnd,hrel⟩:=hw.obj l _ hS;obtain⟨m1,m2,m3⟩:=T8 hsz hrel;have hff:=Wr n s w es me.toList m1 m2;rw[hf]at hff;have hcl:clock=es.length:=by rw[hlt.2.1,hsz,List.length_map]
   have hplt:g.pl l<w.heap.size:=(Array.getElem?_eq_some_iff.1 hheap).1
   have hlS:=(List.getElem?_eq_some_iff.1 hS).1
   have hle:=Le.setObj (w:=w) hG (.map (me.push ⟨E4 n s,.slice none 0 0,clock⟩) (clock+1));have hnil:∀w g,Rel w g (.sl .full []) (.slice none 0 0):=fun w g=>.sl _ .full [] none 0 0 (fun _=>undef) (Nat.le_refl _) (Nat.zero_le _) (by simp) (fun h=>absurd h (Nat.lt_irrefl 0)) (by simp[Ak]) (by simp[Ak]) rfl
   obtain⟨q1,q2⟩:=hw.put (o:=Dn (es++[((n,s),.sl .full [])])) (ob:=.map (me.push ⟨E4 n s,.slice none 0 0,clock⟩) (clock+1)) hlS hown hG ⟨hbf,hown,hG,me.push ⟨E4 n s,.slice none 0 0,clock⟩,clock+1,by simp[hplt],by simp at hsz ⊢;omega,⟨fun y hy=>by
     simp only[Array.toList_push,List.mem_append,List.mem_singleton]at hy;rcases hy with hy|rfl
     ·exact Nat.lt_succ_of_lt (hlt.1 y hy)
     ·exact Nat.lt_succ_self _,by simp[hlt.2.1],fun i y hy=>by
     rw[Array.getElem?_push]at hy
     split at hy
     ·rename_i hi
      cases hy
      rw[hi];exact hlt.2.1
     ·exact hlt.2.2 i y hy⟩,by
     rw[Array.toList_push,List.map_append,List.nodup_append];refine⟨hnd,by simp,fun a ha b hb hab=>?_⟩
     obtain⟨y,hy,rfl⟩:=List.mem_map.1 ha;simp only[List.map_cons,List.map_nil,List.mem_singleton]at hb;have :=hlt.1 y hy;omega,fun j u y hu hy=>by
     rw[Array.getElem?_push]at hy
     rw[List.map_append,List.getElem?_append]at hu
     split at hy
     ·rename_i hi
      cases hy
      rw[if_neg (by rw[hi,hsz];omega),hi,hsz,Nat.sub_self]at hu
      cases hu
      exact⟨PU n s,hnil _ _⟩
     ·rename_i hi
      have hj:j<me.size:=(Array.getElem?_eq_some_iff.1 hy).1
      rw[if_pos (by rw[←hsz];exact hj)]at hu
      have :=hrel j u y hu hy;exact⟨this.1.le hle,this.2.le hle⟩⟩
   refine⟨.tuple #[.slice none 0 0,.int .i64 clock],_,g,?_,q1,?_,q2⟩
   ·unfold execOp
    simp only[ho,hcm,hkc];simp[Instr.mapEntry,run_underlying underlying98,Go.MapKept.run_getObj_map hheap,PV,hff,Go.MapKept.run_setObj_map _ hheap,goInt]
   ·rw[hcl]
    refine .tup _ _ _ rfl fun j u v hu hv=>?_
    match j,hu,hv with
    |0,hu,hv=>cases hu;cases hv;exact hnil _ _
    |1,hu,hv=>cases hu;cases hv;exact .it _ _ _
theorem ZgC{o:Oper}{e:Af}{S:Ae}{t:TypeId}{m s x:Operand}{l:Nat}{v v0:AV}{p:Int×By}{es:List Dt}(ho:o.op=.entryStore t m s x)(hm:ev e m=.mp l)(hs:ev e s=.it .i64 (es.length:Int))(hx:ev e x=v)(hS:S[l]? = some (Dn (es++[(p,v0)]))):
  AU prog o e S .junk (S.set l (Dn (es++[(p,v)]))):=
 Oy fun ρ w g hw hr=>by
  have hrm:=hr m (by rw[ho];simp[Op.operands])
  have hrs:=hr s (by rw[ho];simp[Op.operands])
  have hrx:=hr x (by rw[ho];simp[Op.operands])
  rw[hm]at hrm;rw[hs]at hrs;rw[hx]at hrx;generalize hcm:ρ m=cm at hrm;generalize hcs:ρ s=cs at hrs;generalize hcx:ρ x=cx at hrx;cases hrs
  cases hrm with
  | mp _ _ hl hb=>
   obtain⟨hbf,hown,hG,me,clock,hheap,hsz,hlt,hnd,hrel⟩:=hw.obj l _ hS;have hsz':me.size=es.length+1:=by simpa using hsz
   have hplt:g.pl l<w.heap.size:=(Array.getElem?_eq_some_iff.1 hheap).1
   have hlS:=(List.getElem?_eq_some_iff.1 hS).1
   have hle:=Le.setObj (w:=w) hG (.map (me.modify es.length fun e=>{ e with val:=cx }) clock)
   have hidx:me.findIdx? (fun e=>(e.born:Int)==(es.length:Int))=some es.length:=by
    rw[Array.findIdx?_eq_some_iff_getElem]
    refine⟨by omega,?_,fun j hj=>?_⟩
    ·have :=hlt.2.2 es.length _ (Array.getElem?_eq_getElem (by omega))
     simp[this]
    ·have :=hlt.2.2 j _ (Array.getElem?_eq_getElem (by omega))
     simp[this]
     omega
   obtain⟨q1,q2⟩:=hw.put (o:=Dn (es++[(p,v)])) (ob:=.map (me.modify es.length fun e=>{ e with val:=cx }) clock) hlS hown hG ⟨hbf,hown,hG,me.modify es.length fun e=>{ e with val:=cx },clock,by simp[hplt],by simpa using hsz',⟨fun y hy=>by
     obtain⟨j,hj⟩:=List.mem_iff_getElem?.1 hy;have hj:(me.modify es.length fun e=>{ e with val:=cx })[j]? = some y:=by rw[←Array.getElem?_toList];exact hj
     rw[Array.getElem?_modify]at hj
     split at hj
     ·obtain⟨y',h8,rfl⟩:=Option.map_eq_some_iff.1 hj
      exact hlt.1 y' (by rw[Array.mem_toList_iff];exact Array.mem_of_getElem? h8)
     ·exact hlt.1 y (by rw[Array.mem_toList_iff];exact Array.mem_of_getElem? hj),by simpa using hlt.2.1,fun i y hy=>by
     rw[Array.getElem?_modify]at hy
     split at hy
     ·obtain⟨y',h8,rfl⟩:=Option.map_eq_some_iff.1 hy
      exact hlt.2.2 i y' h8
     ·exact hlt.2.2 i y hy⟩,by
     have:(me.modify es.length fun e=>{ e with val:=cx }).toList.map (·.born)=me.toList.map (·.born):=by
      refine List.ext_getElem? fun j'=>?_
      rw[List.getElem?_map,List.getElem?_map,Array.getElem?_toList,Array.getElem?_toList,Array.getElem?_modify]
      split
      ·cases me[j']?<;>rfl
      ·rfl
     rw[this];exact hnd,fun j u y hu hy=>by
     rw[Array.getElem?_modify]at hy
     rw[List.map_append,List.getElem?_append]at hu
     by_cases hj:j=es.length
     ·subst hj
      rw[if_pos rfl]at hy;rw[if_neg (by rw[List.length_map];omega),List.length_map,Nat.sub_self]at hu
      cases hu
      obtain⟨y',h8,rfl⟩:=Option.map_eq_some_iff.1 hy;have :=hrel es.length (Ed p.1 p.2,v0) y' (by rw[List.map_append,List.getElem?_append_right (by rw[List.length_map];exact Nat.le_refl _),List.length_map,Nat.sub_self];rfl) h8
      exact⟨this.1.le hle,hrx.le hle⟩
     ·rw[if_neg (Ne.symm hj)]at hy
      have hjl:j<es.length:=by
       have :=(Array.getElem?_eq_some_iff.1 hy).1
       omega
      rw[if_pos (by rw[List.length_map];exact hjl)]at hu
      have :=hrel j u y (by rw[List.map_append,List.getElem?_append_left (by rw[List.length_map];exact hjl)];exact hu) hy
      exact⟨this.1.le hle,this.2.le hle⟩⟩
   refine⟨_,g,?_,q1,q2⟩
   unfold execOp;simp only[ho,hcm,hcs,hcx];simp[Instr.entryStore,Go.MapKept.run_getObj_map hheap,Go.MapKept.run_setObj_map _ hheap,asInt,asIntOf,hidx]
theorem Ao.wkMap(N0:Nat){e:Af}{S:Ae}(l:Nat){es:List (AV×AV)}(hS:S[l]? = some (.map es)):Ao N0 e S e (S.set l (.map (es.map fun p=>(p.1,p.2.wk1)))):=by
 rintro N w0 g0 a w hn ⟨h1,h2,g,h3,h4,h5⟩
 have hlS:=(List.getElem?_eq_some_iff.1 hS).1
 refine⟨h1,h2,g,⟨by rw[List.length_set];exact h3.nid,fun k o hk=>?_,h3.disj,h3.lt,h3.tab⟩,h4,h5⟩
 by_cases hkl:k=l
 ·subst hkl
  rw[List.getElem?_set_self hlS]at hk
  cases hk
  obtain⟨k1,k2,k3,me,clock,k4,k5,k6,k7,k8⟩:=h3.obj k _ hS;refine⟨k1,k2,k3,me,clock,k4,by rw[List.length_map];exact k5,k6,k7,fun j u v hu hv=>?_⟩
  rw[List.getElem?_map]at hu
  obtain⟨u0,hu0,rfl⟩:=Option.map_eq_some_iff.1 hu;have :=k8 j u0 v hu0 hv;exact⟨this.1,this.2.wk1⟩
 ·rw[List.getElem?_set_ne (Ne.symm hkl)]at hk
  exact h3.obj k o hk
end Pe
end
section
namespace Tp
open Tryz
open Go Co Sg Ac It
set_option maxRecDepth 100000
def ZbC(acts:List Ac.Act):Option Ac.Act:=acts.reverse.find? fun a=>a.kind==19
def Pj(c:Chn)(w:Option It.Claim):Option It.Claim:=
 match w with
 |none=>none
 | some cl=>if cl.base=(c.acts.length:Int)∧cl.prev=c.prev∧(match ZbC c.acts with
   |some a=>It.claimed a.m cl
   |none=>false)=true then some cl else none
def ZcB(c:Chn)(cl:It.Claim):Chn:=
 { c with keys:=c.keys++[⟨(c.acts.length:Int),cl.pub,cl.home⟩],gen:=c.gen+1,prev:=It.digest (Uo cl) }
def JJ(won:Int→Option It.Claim)(A:List Ac.Act):Nat→Chn→Chn→Prop
 |0,_,_=>False
 | n+1,c,r=>match Pj c (won c.gen)with
  |some cl=>JJ won A n (ZcB c cl) r
  |none=>match BJ A c with
   |[a]=>JJ won A n (Bz c a) r
   |[]=>r={ c with fork:=false }
   |_=>False
theorem Tn{id:By}{L A:List Ac.Act}(h:Ee id L)(hp:A.Perm L):∀(n j:Nat),0<j→j≤L.length→L.length<n+j→JJ (fun _=>none) A n (AB id (L.take j)) (AB id L)
 |0,j,_,h1,h2=>by omega
 | n+1,j,h0,h1,h2=>by
  have hnd:A.Nodup:=hp.nodup_iff.2 (P6 h);have hne:L.take j≠[]:=fun e=>by
   have :=congrArg List.length e;rw[List.length_take,List.length_nil]at this;omega
  have htl:(L.take j).length=j:=by rw[List.length_take];omega
  unfold JJ;simp only[Pj];by_cases hj:j<L.length
  ·have hg:L[j]? = some L[j]:=List.getElem?_eq_getElem hj
   have hs:=h j _ hg;unfold stepOk at hs;rw[if_neg hne]at hs;have hc:BJ A (AB id (L.take j))=[L[j]]:=by
    refine Ml hnd (hp.mem_iff.2 (List.getElem_mem hj)) (by rw[Bool.and_eq_true];exact hs) fun x hx hpx=>?_
    rw[Bool.and_eq_true]at hpx;have h3:=(Hj hpx.1).2.2.1;rw[Cr,htl]at h3;exact P5 h (hp.mem_iff.1 hx) (List.getElem_mem hj) (by rw[h3,(E6 h hg).1])
   rw[hc];simp only
   rw[←Ii,←List.take_succ_eq_append_getElem hj];exact Tn h hp n (j+1) (by omega) (by omega) (by omega)
  ·have:j=L.length:=by omega
   subst this;rw[List.take_length];have hc:BJ A (AB id L)=[]:=by
    rw[BJ,List.filter_eq_nil_iff];intro x hx hpx;rw[Bool.and_eq_true]at hpx;have h3:=(Hj hpx.1).2.2.1;rw[Cr]at h3;obtain⟨i,hi⟩:=List.mem_iff_getElem?.1 (hp.mem_iff.1 hx);have h4:=(E6 h hi).1;have :=(List.getElem?_eq_some_iff.1 hi).1
    omega
   rw[hc];simp only
   have :=Wa id L;generalize AB id L=c at *;cases c
   simp only at this
   rw[this]
end Tp
end
end Go.Proofs.YtipfggegddlgdaaGreatDoor
