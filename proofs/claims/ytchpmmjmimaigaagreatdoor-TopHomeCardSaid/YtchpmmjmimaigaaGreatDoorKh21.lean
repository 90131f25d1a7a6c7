import Derived.Test.YtchpmmjmimaigaaGreatDoorKh20
set_option linter.unusedSectionVars false
set_option linter.unusedVariables false
set_option linter.unusedSimpArgs false
namespace Go.Proofs.YtchpmmjmimaigaaGreatDoor
section
namespace Ql
open Tryz
open Go Co Sg Ac It Sl
def RD(n m:Int):Int:=if n.tmod m<0 then n.tmod m+m else n.tmod m
theorem pickN_in{n m:Int}(hm:0<m):0≤RD n m∧RD n m<m:=by
 have h1:-m<n.tmod m∧n.tmod m<m:=by
  rcases Int.le_total 0 n with h|h
  ·rw[Int.tmod_eq_emod_of_nonneg h]
   have :=Int.emod_nonneg n (show m≠0 by omega)
   have :=Int.emod_lt_of_pos n hm;omega
  ·have e:n = -(-n):=by omega
   rw[e,Int.neg_tmod,Int.tmod_eq_emod_of_nonneg (by omega)]
   have :=Int.emod_nonneg (-n) (show m≠0 by omega)
   have :=Int.emod_lt_of_pos (-n) hm;omega
 unfold RD;split<;>omega
end Ql
end
section
namespace Sl
open Tryz
open Go Co Sg Ac It
def pickN47(n m:Int):Int:=if n.tmod m<0 then n.tmod m+m else n.tmod m
theorem Wb{n m:Int}(hm:0<m):0≤pickN47 n m∧pickN47 n m<m:=Ql.pickN_in hm
end Sl
end
section
namespace Sl
open Tryz
open Go Co Sg Ac It
def On:Nat→By
 |0=>[115,48]
 |1=>[115,49]
 |2=>[115,50]
 |_=>[115,51]
def BO(n:Nat):Key:=Hq (On n)
def AG:List Int:=[(BO 0).pub,(BO 1).pub,(BO 2).pub,(BO 3).pub]
theorem UJ(n:Nat):(BO n).right=true:=Xj _
theorem act_signed(ps:List Int){a:Ac.Act}(h:Ac.right a=true):It.right (An a)=true∧It.signed ps (An a)=true:=by
 have hr:It.right (An a)=true:=(VD (it:=An a) rfl).2 ⟨h,rfl,rfl,rfl⟩;refine⟨hr,?_⟩
 unfold It.signed;rw[hr];rfl
end Sl
end
section
namespace Tp
open Tryz
open Go Co Sg Ac It
def dg(a:Ac.Act):By:=It.digest (An a)
def Xa(a b:By):Bool:=Op.bytesLess a b||a==b
def XC:List Ac.Act→By→Nat
 |[],_=>0
 |a::l,d=>if(d==[] || !(dg a==d))=true then XC l d+1 else 0
def ZhB(l:List Ac.Act)(d:By):Bool:=decide (XC l d<l.length)
def NS(a b:Ac.Act):Bool:=if a.seq≠b.seq then decide (b.seq<a.seq)else !(Xa (dg a) (dg b))
def Fj(out:List Ac.Act)(a:Ac.Act):Nat→Nat
 |0=>0
 |k+1=>if NS (out.getD k act0) a=true then Fj out a k else k+1
theorem Rx(out:List Ac.Act)(a:Ac.Act):∀k,Fj out a k≤k
 |0=>Nat.le_refl 0
 |k+1=>by
  unfold Fj;have :=Rx out a k;split<;>omega
def EK(out:List Ac.Act)(a:Ac.Act):List Ac.Act:=out.take (Fj out a out.length)++a::out.drop (Fj out a out.length)
def Eo:List Ac.Act→List Ac.Act→List Ac.Act
 |out,[]=>out
 |out,a::l=>Eo (EK out a) l
def BY(l:List Ac.Act)(id:By):List Ac.Act:=(Eo [] l).filter fun a=>a.author==id
theorem VW{out:List Ac.Act}{a x:Ac.Act}(h:x∈EK out a):x=a∨x∈out:=by
 unfold EK at h;rcases List.mem_append.1 h with h|h
 ·exact .inr (List.mem_of_mem_take h)
 ·rcases List.mem_cons.1 h with h|h
  ·exact .inl h
  ·exact .inr (List.mem_of_mem_drop h)
theorem VX(out:List Ac.Act)(a:Ac.Act):(EK out a).length=out.length+1:=by
 have :=Rx out a out.length;unfold EK;rw[List.length_append,List.length_cons,List.length_take,List.length_drop];omega
theorem UY:∀(l out:List Ac.Act) {x:Ac.Act},x∈Eo out l→x∈out∨x∈l
 |[],_,_,h=>.inl h
 | a::l,out,x,h=>by
  rcases UY l (EK out a) h with h|h
  ·rcases VW h with rfl|h
   ·exact .inr (by simp)
   ·exact .inl h
  ·exact .inr (List.mem_cons_of_mem _ h)
theorem QD:∀(l out:List Ac.Act),(Eo out l).length=out.length+l.length
 |[],_=>rfl
 |a::l,out=>by rw[Eo,QD l,VX,List.length_cons];omega
theorem Zkv{l:List Ac.Act}{id:By}{x:Ac.Act}(h:x∈BY l id):x∈l:=by
 have :=UY l [] (List.mem_filter.1 h).1;simpa using this
theorem Zkw(l:List Ac.Act)(id:By):(BY l id).length≤l.length:=by
 have h1:=List.length_filter_le (fun a:Ac.Act=>a.author==id) (Eo [] l)
 have h2:=QD l [];rw[List.length_nil]at h2;unfold BY;omega
structure KeyAt where
 frm:Int
 pub:Int
 home:Int
structure Chn where
 id:By
 acts:List Ac.Act
 keys:List KeyAt
 prev:By
 gen:Int
 fork:Bool
def Ds(n:Int):By:=(Sm.hex (Sm.sha (text [97,99,116,111,114]++Ah n))).take 16
def Cl(id:By)(a:Ac.Act):Bool:=!(!(a.author==id) || !(a.kind==0) || !(a.seq==0) || !(a.prev==[]) || !(Ds a.n==id))&&B0 a.n a
def CY(l:List Ac.Act)(id:By):List Ac.Act:=l.filter (Cl id)
def JJ(k:Int):Bool:=k==4||k==5||k==7||k==8||k==10||k==11||k==17||k==23
def BL:List Ac.Act→By→Option Nat
 |[],_=>none
 |a::l,d=>if dg a=d then some 0 else(BL l d).map (· + 1)
def FO(c:Chn)(a:Ac.Act):Bool:=
 if a.kind≠6∧a.kind≠13∧a.kind≠14 then true
 else match BL c.acts a.object with
  |none=>false
  |some i=>if a.kind=6 then JJ (c.acts.getD i act0).kind else FM (c.acts.getD i act0).kind
def Bp(c:Chn)(a:Ac.Act):Bool:=
 Ac.right a&&decide (a.author=c.id)&&decide (a.seq=c.acts.length)&&decide (a.prev=c.prev)&&decide ((a.kind=0)↔(c.acts.length=0))&&FO c a
def Cy(c:Chn):KeyAt:=c.keys.getD (c.keys.length-1) ⟨0,0,0⟩
def BD(l:List Ac.Act)(c:Chn):List Ac.Act:=l.filter fun a=>Bp c a&&B0 (Cy c).pub a
def Bi(c:Chn)(a:Ac.Act):Chn:=
 { c with acts:=c.acts++[a],prev:=dg a,keys:=if a.kind=18∨a.kind=0 then c.keys++[⟨if a.kind=0 then 0 else((c.acts.length+1:Nat):Int),a.n,a.m⟩]else c.keys }
def EQ:Nat→List Ac.Act→Chn→Chn
 |0,_,c=>c
 |n+1,l,c=>match BD l c with
  |[a]=>EQ n l (Bi c a)
  |[]=>{ c with fork:=false }
  |_=>{ c with fork:=true }
def Fq(k:List Ac.Act)(id:By):Chn:=
 match CY (BY k id) id with
 |[a]=>EQ (k.length+1) (BY k id) (Bi ⟨id,[],[],[],0,false⟩ a)
 |[]=>⟨id,[],[],[],0,false⟩
 |_=>⟨id,[],[],[],0,true⟩
structure COk(c:Chn)(N:Nat):Prop where
 acts:∀a∈c.acts,Ac.right a=true
 len:c.acts.length≤N
 klen:c.keys.length≤N
 key:c.acts≠[]→c.keys≠[]
 keys:∀k∈c.keys,(0≤k.frm∧k.frm≤N) ∧ ∃a,Ac.right a=true∧k.pub=a.n∧k.home=a.m
structure Ties where
 follows:List By
 accepts:List By
 blocks:List By
 mutes:List By
def Ob(l:List By)(x:By):List By:=
 if l.contains x=true then l else l.takeWhile (fun y=>Op.bytesLess y x)++x::l.dropWhile (fun y=>Op.bytesLess y x)
def JC(l:List By)(x:By):List By:=l.filter fun y=>!(y==x)
def ZiN(acts:List Ac.Act):List By:=if acts.any (fun a=>a.kind==6)=true then acts.map dg else []
def XA:List By→By→Option Nat
 |[],_=>none
 |x::l,d=>if x=d then some 0 else(XA l d).map (· + 1)
def Zkl(t:Ties)(acts:List Ac.Act)(i:Nat)(l:List By):Ties:=
 let a:=acts.getD i act0
 if a.kind=7 then { t with follows:=Ob t.follows a.target }
 else if a.kind=8 then { t with accepts:=Ob t.accepts a.target }
 else if a.kind=9 then { t with accepts:=JC t.accepts a.target }
 else if a.kind=10 then { t with blocks:=Ob t.blocks a.target,follows:=JC t.follows a.target,accepts:=JC t.accepts a.target }
 else if a.kind=11 then { t with mutes:=Ob t.mutes a.target }
 else if a.kind=6 then match XA l a.object with
  |none=>t
  |some j=>if i≤j then t else
   let b:=acts.getD j act0
   if b.kind=7 then { t with follows:=JC t.follows b.target }
   else if b.kind=8 then { t with accepts:=JC t.accepts b.target }
   else if b.kind=10 then { t with blocks:=JC t.blocks b.target }
   else if b.kind=11 then { t with mutes:=JC t.mutes b.target }
   else t
 else t
def UB(acts:List Ac.Act):Nat→Ties
 |0=>⟨[],[],[],[]⟩
 |i+1=>Zkl (UB acts i) acts i (ZiN acts)
def UA(c:Chn)(n:Nat):Ties:=UB c.acts (min n c.acts.length)
def Zhd(l:List By)(s:By):List By:=
 if(l.dropWhile (fun y=>Op.bytesLess y s)).head?=some s then l else l.takeWhile (fun y=>Op.bytesLess y s)++s::l.dropWhile (fun y=>Op.bytesLess y s)
def M4(c:Chn)(n:Nat):List By:=
 ((UA c n).accepts.filter fun x=>!(x==c.id) && !((UA c n).blocks.contains x)).foldl Zhd []
def XV(acts:List Ac.Act):Nat→Nat×Int
 |0=>(0,0)
 |i+1=>
  let r:=XV acts i
  let a:=acts.getD i act0
  if a.kind=16∧a.scope=1∧a.group=[]∧a.epoch=r.2 then(i,r.2+1)else r
def Pn(c:Chn)(n:Nat):Nat×Bool:=let r:=XV c.acts (min n c.acts.length);(r.1,decide (0<r.2))
def HF(c:Chn)(n:Nat):Int×List By×Bool:=
 if(Pn c n).2=true then((c.acts.getD (Pn c n).1 act0).epoch,(c.acts.getD (Pn c n).1 act0).to,true)else(0,[],false)
def X2(c:Chn)(n:Nat):Bool:=!(HF c n).2.2 || !decide ((HF c n).2.1=M4 c n)
def hL(l:List By):By:=Sm.sha (list l)
abbrev Of:By:=[115,116,114,101,97,109]
abbrev Oe:By:=[116,97,103]
def CU(key nonce:By)(s:By):By:=(List.range s.length).map fun i=>(s.getD i 0)^^^((hL [Of,key,nonce,Ah ((i / 32:Nat):Int)]).getD (i % 32) 0)
def IS(key nonce data:By):By:=(hL [Oe,key,nonce,data]).take 16
def ML(key nonce plain:By):Box:=⟨nonce,CU key nonce plain,IS key nonce (CU key nonce plain)⟩
abbrev Ut:By:=[119,114,97,112]
abbrev KN:By:=[101,112,104]
abbrev wNonce:By:=[110,111,110,99,101]
def KH(to eph shared:Int):By:=hL [Ut,Ah to,Ah eph,Ah shared]
def JB(p:Int)(seed plain:By):Wrap:=
 let e:Nat:=1+Sm.num (hL [KN,seed,Ah p]) % 2305843009213693949
 let eph:Int:=((AU 37 e:Nat):Int)
 let k:=KH p eph ((AU p.toNat e:Nat):Int)
 ⟨p,eph,ML k (hL [wNonce,k]) plain⟩
abbrev Zck:By:=[101,112,111,99,104]
abbrev Zcg:By:=[112,111,115,116]
abbrev Zcj:By:=[103,114,97,110,116]
def Vh(k:Key)(e:Int):By:=Sm.sha (text Zck++Ah k.secret++Ah 1++text []++Ah e)
def Ej(c:Chn)(kind time:Int):Ac.Act:={ act0 with author:=c.id,seq:=(c.acts.length:Int),prev:=c.prev,kind:=kind,time:=time }
def J3(c:Chn)(i:Nat):KeyAt×Bool:=
 if c.acts.length<i then(⟨0,0,0⟩,false)else match c.keys.reverse.find? (fun k=>decide (k.frm≤(i:Int)))with
  |some k=>(k,true)
  |none=>(⟨0,0,0⟩,false)
def Zaf(k:Key)(c:Chn):Bool:=(J3 c c.acts.length).2&&k.right&&decide ((J3 c c.acts.length).1.pub=k.pub)
def Zc3(k:Key)(c:Chn):Bool:=X2 c c.acts.length || !decide ((J3 c (Pn c c.acts.length).1).1.pub=k.pub)
def V5(k:Key)(c:Chn)(time:Int)(txt:By):Ac.Act×Int:=
 if Zaf k c=false then(act0,10)
 else if Zc3 k c=true then(act0,11)
 else
  let e:=(HF c c.acts.length).1
  let s:=Vh k e
  let x:=text Zcg++text s++Ah (c.acts.length:Int)++text c.prev++text txt
  let d:={ Ej c 1 time with scope:=1,epoch:=e,body:=ML s (Sm.sha x) txt }
  if Ac.right d=false then(act0,1)else if Bp c d=false then(act0,4)else(Er k d,0)
def Uc(s:By):Nat→List Int→List Wrap
 |_,[]=>[]
 |i,p::l=>JB p (text Zcj++text s++Ah (i:Int)) s::Uc s (i+1) l
def ZhF(k:Key)(c:Chn)(ps:List Int)(time:Int):Ac.Act:=
 let l:=M4 c c.acts.length
 if ps.any (fun p=>decide (p<1)||decide (2305843009213693950<p))=true then act0
 else if 64<l.length then act0
 else if Zaf k c=false then act0
 else
  let e:=if(HF c c.acts.length).2.2=true then(HF c c.acts.length).1+1 else(HF c c.acts.length).1
  let a:={ Ej c 16 time with scope:=1,to:=l,epoch:=e,wraps:=Uc (Vh k e) 0 ps }
  if Ac.right a=false then act0 else Er k a
structure Wish where
 who:Int
 kind:Int
 on:Int
 whom:Int
 txt:By
 spoil:Int
def AM(n m:Int):Int:=Sl.pickN47 n m
def E4(n:Nat):By:=if n<10 then [UInt8.ofNat (48+n)]else [UInt8.ofNat (48+n / 10),UInt8.ofNat (48+n % 10)]
def Bv(who:Int)(moves:Nat):Key:=Hq ([97,99,116,111,114,32]++E4 (AM who 4).toNat++[32]++E4 moves)
def DW(who:Int):By:=Ds (Bv who 0).pub
def Gx(who me time:Int):Ac.Act:=
 Er (Bv who 0) { act0 with author:=DW who,kind:=0,time:=time,text:=[97,99,116,111,114]++E4 (AM who 4).toNat,n:=(Bv who 0).pub,m:=me }
def Rq(k:List Ac.Act):List By:=(k.filter fun a=>FM a.kind).map dg
def V4(k:List Ac.Act)(on:Int):By:=if Rq k=[]then dg (Gx 0 0 0)else(Rq k).getD (AM on (Rq k).length).toNat []
def R9(c:Chn)(low high:Int):By:=
 match c.acts.tail.reverse.find? (fun a=>decide (low≤a.kind)&&decide (a.kind≤high))with
 |some a=>dg a
 |none=>dg (c.acts.getD 0 act0)
def Me(k:List Ac.Act)(c:Chn)(w:Wish)(a:Ac.Act):Ac.Act:=
 if a.kind=1 then { a with text:=w.txt }
 else if a.kind=2∨a.kind=3 then { a with text:=w.txt,object:=V4 k w.on }
 else if a.kind=5∨a.kind=4 then { a with object:=V4 k w.on }
 else if a.kind=6 then { a with object:=R9 c 4 11 }
 else if a.kind=13 then { a with object:=R9 c 1 3 }
 else if a.kind=14 then { a with object:=R9 c 1 3,text:=w.txt }
 else if a.kind=15 then { a with group:=[102,114,105,101,110,100,115],to:=[DW w.whom] }
 else if a.kind=18 then { a with n:=(Bv w.who c.keys.length).pub,m:=AM w.whom 3 }
 else { a with target:=DW w.whom }
def VY(k:List Ac.Act)(ids:List By):List Int:=ids.map fun i=>if(Fq k i).keys=[]then 1 else(Cy (Fq k i)).pub
def Zd0(k:List Ac.Act)(c:Chn)(key:Key)(w:Wish)(time:Int):Ac.Act:=
 if(V5 key c time w.txt).2≠11 then(V5 key c time w.txt).1
 else if(VY k (M4 c c.acts.length)).any (fun p=>p==1)=true then Er key { Ej c 1 time with text:=w.txt }
 else ZhF key c (VY k (M4 c c.acts.length)) time
def Xg(w:Wish):Int:=([1,1,2,3,5,4,6,7,8,10,11,13,14,15,18,-1]:List Int).getD (AM w.kind 16).toNat 0
def O9(k:List Ac.Act)(me time:Int)(w:Wish):Ac.Act:=
 let c:=Fq k (DW w.who)
 if c.acts=[]then Gx w.who me time
 else if Xg w<0 then Zd0 k c (Bv w.who (c.keys.length-1)) w time
 else Er (Bv w.who (c.keys.length-1)) (Me k c w (Ej c (Xg w) time))
def LU(k:List Ac.Act)(me time:Int)(w:Wish):Ac.Act:=
 let a:=O9 k me time w
 let s:=AM w.spoil 12
 if s=0 then { a with sig:={ a.sig with s:=AM (IntKind.i64.wrap (a.sig.s+1)) 1000 } }
 else if s=1 then { a with seq:=IntKind.i64.wrap (a.seq+1) }
 else if s=2 then { a with text:=a.text++[120] }
 else if s=3 then { a with author:=DW (IntKind.i64.wrap (w.who+1)) }
 else if s=4 then { a with prev:=dg a }
 else a
end Tp
end
section
namespace Pe
open Tryz
open Go Go.RowKit Co Sg Ac It
set_option maxRecDepth 100000
set_option maxHeartbeats 4000000
abbrev AB(l:List Int):AV:=.sl .ro (l.map (AV.it .i64))
structure InL(l:List Int):Prop where
 len:l.length≤140737488351232
 rng:∀i∈l,-9223372036854775808≤i∧i≤9223372036854775807
theorem shp_intsI{n us}(h:Dd prog 140737488351232 (n+2) 22 us):∃l:List Int,us=[AB l]∧InL l:=by
 obtain⟨l,h1,h2,h3⟩:=Va (AV.it .i64) (fun i:Int=>-9223372036854775808≤i∧i≤9223372036854775807) underlying22 h (fun x hx=>by
  obtain⟨i,rfl,hi⟩:=QP underlying3 hx;exact⟨i,by rw[show HK prog 3=false from by kernel_rfl];rfl,hi⟩)
 exact⟨l,h1,h2,h3⟩
end Pe
end
section
namespace Pe
open Tryz
open Go Go.RowKit Co Sg Ac It Sl
set_option maxRecDepth 100000
set_option maxHeartbeats 4000000
structure EOk(l:List It.Entry):Prop where
 len:l.length≤1000000
 iz:∀e∈l,Iz e.item
theorem EOk.take{l:List It.Entry}(h:EOk l)(n:Nat):EOk (l.take n):=⟨by have :=h.len;rw[List.length_take];omega,fun e he=>h.iz e (List.mem_of_mem_take he)⟩
theorem EOk.drop{l:List It.Entry}(h:EOk l)(n:Nat):EOk (l.drop n):=⟨by have :=h.len;rw[List.length_drop];omega,fun e he=>h.iz e (List.mem_of_mem_drop he)⟩
end Pe
end
section
namespace Pe
open Tryz
open Go Go.RowKit Co
set_option maxRecDepth 100000
set_option maxHeartbeats 4000000
theorem X5:∀(f n:Nat),n<f→n<9223372036854775808→AC prog 91 [.it .i64 n] [] (.st (num n)) []
 |0,n,h,_=>absurd h (Nat.not_lt_zero _)
 | f+1,n,hf,hn=>by
  by_cases hs:n<128
  ·refine Ap [91] [] func91 ?_
   have h0:¬(n:Int)<0:=by omega
   have h1:(n:Int)<128:=by omega
   have hw:IntKind.u8.wrap (n:Int)=(n:Int):=KI (by omega) (by omega)
   have hb:bytesOf [AV.it .u8 (n:Int)]=some [UInt8.ofNat n]:=by
    rw[show(AV.it .u8 (n:Int))=u8 (UInt8.ofNat n)from by unfold u8;rw[OZ (by omega)]]
    exact Mi [UInt8.ofNat n]
   rw[I5 hs];refine Aa (A4 @h0 @h1 @hw @hb) ?_;exact Ad
  ·have ih:=X5 f (n / 128) (by omega) (by omega)
   refine Ap [91] [] func91 ?_;have h0:¬(n:Int)<0:=by omega
   have h1:¬(n:Int)<128:=by omega
   have hm:(n:Int).tmod 128=((n % 128:Nat):Int):=by rw[Int.tmod_eq_emod_of_nonneg (by omega)];omega
   have hd:(n:Int).tdiv 128=((n / 128:Nat):Int):=by rw[Int.tdiv_eq_ediv_of_nonneg (by omega)];omega
   have hw:IntKind.u8.wrap (128+((n % 128:Nat):Int))=((128+n % 128:Nat):Int):=by rw[show(128:Int)+((n % 128:Nat):Int)=((128+n % 128:Nat):Int)from by omega];exact KI (by omega) (by omega)
   have hb:bytesOf [AV.it .u8 ((128+n % 128:Nat):Int)]=some [UInt8.ofNat (128+n % 128)]:=by
    rw[show(AV.it .u8 ((128+n % 128:Nat):Int))=u8 (UInt8.ofNat (128+n % 128))from by unfold u8;rw[OZ (by omega)]]
    exact Mi [UInt8.ofNat (128+n % 128)]
   have hl:=EL (n:=n / 128) (by omega)
   rw[M2 hs];refine Aa (A6 @h0 @h1 @hm @hd @hw @hb) ?_;refine cp ih ?_;refine run ?_;exact Ad
theorem D2(n:Int)(h:n<9223372036854775808):AC prog 91 [.it .i64 n] [] (.st (Ah n)) []:=by
 by_cases h0:n<0
 ·refine Ap [91] [] func91 ?_
  rw[show Ah n=[]from by unfold Ah;rw[if_pos h0]]
  refine run ?_;exact Ad
 ·obtain⟨m,rfl⟩:∃m:Nat,n=(m:Int):=⟨n.toNat,by omega⟩
  rw[I6];exact X5 (m+1) m (by omega) (by omega)
theorem Ef(s:By)(h:s.length≤1000000000):AC prog 90 [.st s] [] (.st (text s)) []:=by
 refine Ap [91] [] func90 ?_;have k:=D2 (s.length:Int) (by omega)
 rw[I6]at k;have hl:=EL (n:=s.length) (by omega)
 unfold text;refine run ?_;refine cp k ?_;refine run ?_;exact Ad
end Pe
namespace Pe
open Tryz
open Go Go.RowKit Co Sg
set_option maxRecDepth 100000
set_option maxHeartbeats 4000000
theorem Zik(a m:Int)(hm:0<m):a % m=if a.tmod m<0 then a.tmod m+m else a.tmod m:=by
 rw[Int.emod_eq_tmod];have hb:=Int.emod_nonneg a (show m≠0 by omega)
 have ht:=Int.tmod_lt_of_pos a hm;by_cases h0:0≤a
 ·have :=Int.tmod_nonneg m h0
  rw[if_pos (.inl h0),if_neg (by omega)];omega
 ·by_cases hd:m ∣ a
  ·rw[if_pos (.inr hd),Int.tmod_eq_zero_of_dvd hd];simp
  ·have hneg:a.tmod m<0:=by
    have h2:=Int.emod_eq_tmod (a:=a) (b:=m);rw[if_neg (by rintro(h|h);exact h0 h;exact hd h)]at h2
    have h3:=Int.emod_lt_of_pos a hm
    have:(m.natAbs:Int)=m:=by omega
    omega
   rw[if_neg (by rintro(h|h);exact h0 h;exact hd h),if_pos hneg]
   omega
theorem Zar(a:Nat)(ha:a<18446744073709551616):Go.bits .and .u64 (a:Int) 2147483647=((a % 2147483648:Nat):Int):=by
 have :=bits_nat .and Nat.land (.inl ⟨rfl,rfl⟩) a 2147483647 ha (by omega) .u64 (.inl rfl)
 have e:Nat.land a 2147483647=a % 2147483648:=Nat.and_two_pow_sub_one_eq_mod a 31;rw[e]at this;exact this.trans (DZ (by omega))
theorem Zas(a:Nat)(ha:a<18446744073709551616):Go.bits .and .u64 (a:Int) 1073741823=((a % 1073741824:Nat):Int):=by
 have :=bits_nat .and Nat.land (.inl ⟨rfl,rfl⟩) a 1073741823 ha (by omega) .u64 (.inl rfl)
 have e:Nat.land a 1073741823=a % 1073741824:=Nat.and_two_pow_sub_one_eq_mod a 30;rw[e]at this;exact this.trans (DZ (by omega))
theorem Uf{n:Nat}(h:n<9223372036854775808):IntKind.i64.wrap (n:Int)=(n:Int):=wrap64 (by omega) (by omega)
theorem WR(x0 x1 y0 y1:Nat):(x1*2147483648+x0)*(y1*2147483648+y0)=x1*y1*4611686018427387904+(x1*y0+x0*y1)*2147483648+x0*y0:=by
 grind
theorem H8(a m:Int)(hm:0<m)(hm':m<4611686018427387904)(ha:-9223372036854775808≤a∧a≤9223372036854775807):AC prog 276 [.it .i64 a,.it .i64 m] [] (.it .i64 (a % m)) []:=by
 refine Ap [] [] func276 ?_;have h1:=Zik a m hm;have h2:-m≤a.tmod m∧a.tmod m<m:=by
  have hb:=Int.emod_nonneg a (show m≠0 by omega)
  have hc:=Int.emod_lt_of_pos a hm;have ht:=Int.tmod_lt_of_pos a hm;split at h1<;>omega
 have hm0:m≠0:=by omega
 obtain⟨t,ht⟩:∃t,a.tmod m=t:=⟨_,rfl⟩
 rw[ht]at h1 h2;rw[h1];by_cases h0:t<0
 ·rw[if_pos h0]
  refine Aa (an @ht @hm0) ?_;exact Ad
 ·rw[if_neg h0]
  refine Aa (an @ht @hm0) ?_;exact Ad
theorem Vp(a b:Nat)(ha:a<2305843009213693952)(hb:b<2305843009213693952):AC prog 302 [.it .i64 a,.it .i64 b] [] (.tup [.it .u64 ((a / 2147483648*(b / 2147483648):Nat):Int),.it .u64 ((a / 2147483648*(b % 2147483648)+a % 2147483648*(b / 2147483648):Nat):Int),.it .u64 ((a % 2147483648*(b % 2147483648):Nat):Int)]) []:=by
 refine Ap [] [] func302 ?_;have wa:=DZ (n:=a) (by omega)
 have wb:=DZ (n:=b) (by omega)
 have hx0:=Zar a (by omega)
 have hy0:=Zar b (by omega)
 have hx1:=Dc a 31 31 rfl (by omega)
 have hy1:=Dc b 31 31 rfl (by omega)
 rw[show(2:Nat)^31=2147483648 from rfl]at hx1 hy1
 have b0:a % 2147483648≤2147483647:=by omega
 have b1:a / 2147483648≤1073741823:=by omega
 have b2:b % 2147483648≤2147483647:=by omega
 have b3:b / 2147483648≤1073741823:=by omega
 generalize a % 2147483648=x0 at *;generalize a / 2147483648=x1 at *;generalize b % 2147483648=y0 at *;generalize b / 2147483648=y1 at *;have p00:x0*y0≤2147483647*2147483647:=Nat.mul_le_mul b0 b2;have p10:x1*y0≤1073741823*2147483647:=Nat.mul_le_mul b1 b2;have p01:x0*y1≤2147483647*1073741823:=Nat.mul_le_mul b0 b3;have p11:x1*y1≤1073741823*1073741823:=Nat.mul_le_mul b1 b3;have c00:((x0:Int)*(y0:Int))=((x0*y0:Nat):Int):=by push_cast;rfl
 have c10:((x1:Int)*(y0:Int))=((x1*y0:Nat):Int):=by push_cast;rfl
 have c01:((x0:Int)*(y1:Int))=((x0*y1:Nat):Int):=by push_cast;rfl
 have c11:((x1:Int)*(y1:Int))=((x1*y1:Nat):Int):=by push_cast;rfl
 generalize x0*y0=q00 at *;generalize x1*y0=q10 at *;generalize x0*y1=q01 at *;generalize x1*y1=q11 at *;have w00:IntKind.u64.wrap (q00:Int)=(q00:Int):=DZ (by omega)
 have w10:IntKind.u64.wrap (q10:Int)=(q10:Int):=DZ (by omega)
 have w01:IntKind.u64.wrap (q01:Int)=(q01:Int):=DZ (by omega)
 have w11:IntKind.u64.wrap (q11:Int)=(q11:Int):=DZ (by omega)
 have ws:IntKind.u64.wrap ((q10:Int)+(q01:Int))=((q10+q01:Nat):Int):=by rw[AS];omega
 refine Aa (an @wa (an @wb (an @hx0 (an @hy0 (AA @hx1 @hy1 @c00 @c10 @c01 @c11 @w00 @w10 @w01 @w11 @ws))))) ?_;exact Ad
theorem Q3(a b:Int)(ha:-9223372036854775808≤a∧a≤9223372036854775807)(hb:-9223372036854775808≤b∧b≤9223372036854775807):AC prog 277 [.it .i64 a,.it .i64 b] [] (.it .i64 (Ib a b:Nat)) []:=by
 refine Ap [276,302] [] func277 ?_;unfold Ib;have a1:=Int.emod_nonneg a (show(2305843009213693951:Int)≠0 by omega)
 have a2:=Int.emod_lt_of_pos a (show(0:Int)<2305843009213693951 by omega)
 have b1:=Int.emod_nonneg b (show(2305843009213693951:Int)≠0 by omega)
 have b2:=Int.emod_lt_of_pos b (show(0:Int)<2305843009213693951 by omega)
 obtain⟨x,hx⟩:=Int.eq_ofNat_of_zero_le a1;obtain⟨y,hy⟩:=Int.eq_ofNat_of_zero_le b1;have ra:=H8 a 2305843009213693951 (by omega) (by omega) ha
 have rb:=H8 b 2305843009213693951 (by omega) (by omega) hb
 rw[hx]at ra a1 a2 ⊢;rw[hy]at rb b1 b2 ⊢;rw[Int.toNat_natCast,Int.toNat_natCast];have hm:=Vp x y (by omega) (by omega)
 have hxy:x*y=x / 2147483648*(y / 2147483648)*4611686018427387904+(x / 2147483648*(y % 2147483648)+x % 2147483648*(y / 2147483648))*2147483648+x % 2147483648*(y % 2147483648):=by
  rw[←WR,Nat.div_add_mod',Nat.div_add_mod']
 have d0:x % 2147483648≤2147483647:=by omega
 have d1:x / 2147483648≤1073741823:=by omega
 have d2:y % 2147483648≤2147483647:=by omega
 have d3:y / 2147483648≤1073741823:=by omega
 generalize x % 2147483648=x0 at *;generalize x / 2147483648=x1 at *;generalize y % 2147483648=y0 at *;generalize y / 2147483648=y1 at *;have p00:x0*y0≤2147483647*2147483647:=Nat.mul_le_mul d0 d2;have p10:x1*y0≤1073741823*2147483647:=Nat.mul_le_mul d1 d2;have p01:x0*y1≤2147483647*1073741823:=Nat.mul_le_mul d0 d3;have p11:x1*y1≤1073741823*1073741823:=Nat.mul_le_mul d1 d3;have hmid:x1*y0+x0*y1≤4611686018427387904:=by omega
 generalize x1*y0+x0*y1=md at *;generalize x1*y1=hi at *;generalize x0*y0=lo at *;generalize x*y=xy at *;have k1:=Dc md 30 30 rfl (by omega)
 rw[show(2:Nat)^30=1073741824 from rfl]at k1
 have k2:=Zas md (by omega)
 have k3:=IW (md % 1073741824) 31 31 rfl (by omega)
 have e3:md % 1073741824*2^31 % 18446744073709551616=md % 1073741824*2147483648:=by omega
 rw[e3]at k3;have k4:IntKind.u64.wrap (2*(hi:Int))=((2*hi:Nat):Int):=by rw[AS];omega
 have k5:IntKind.u64.wrap (((2*hi:Nat):Int)+((md / 1073741824:Nat):Int))=((2*hi+md / 1073741824:Nat):Int):=by rw[AS];omega
 have k6:IntKind.u64.wrap (((2*hi+md / 1073741824:Nat):Int)+((md % 1073741824*2147483648:Nat):Int))=((2*hi+md / 1073741824+md % 1073741824*2147483648:Nat):Int):=by rw[AS];omega
 have k7:IntKind.u64.wrap (((2*hi+md / 1073741824+md % 1073741824*2147483648:Nat):Int)+(lo:Int))=((2*hi+md / 1073741824+md % 1073741824*2147483648+lo:Nat):Int):=by rw[AS];omega
 have k8:((2*hi+md / 1073741824+md % 1073741824*2147483648+lo:Nat):Int).tmod 2305843009213693951=((xy % 2305843009213693951:Nat):Int):=by
  rw[Int.tmod_eq_emod_of_nonneg (by omega)];omega
 have k9:IntKind.i64.wrap ((xy % 2305843009213693951:Nat):Int)=((xy % 2305843009213693951:Nat):Int):=Uf (by omega)
 refine run ?_;refine cp ra ?_;refine run ?_;refine cp rb ?_;refine run ?_;refine cp hm ?_;refine Aa (A9 @k1 @k2 @k3 @k4 @k5 @k6 @k7 @k8 @k9) ?_;exact Ad
theorem ZeD(a b:Int)(ha:-9223372036854775808≤a∧a≤9223372036854775807)(hb:-9223372036854775808≤b∧b≤9223372036854775807):AC prog 211 [.it .i64 a,.it .i64 b] [] (.it .i64 (EZ a b:Nat)) []:=by
 refine Ap [276,302] [] func211 ?_;unfold EZ;have a1:=Int.emod_nonneg a (show(2305843009213693950:Int)≠0 by omega)
 have a2:=Int.emod_lt_of_pos a (show(0:Int)<2305843009213693950 by omega)
 have b1:=Int.emod_nonneg b (show(2305843009213693950:Int)≠0 by omega)
 have b2:=Int.emod_lt_of_pos b (show(0:Int)<2305843009213693950 by omega)
 obtain⟨x,hx⟩:=Int.eq_ofNat_of_zero_le a1;obtain⟨y,hy⟩:=Int.eq_ofNat_of_zero_le b1;have ra:=H8 a 2305843009213693950 (by omega) (by omega) ha
 have rb:=H8 b 2305843009213693950 (by omega) (by omega) hb
 rw[hx]at ra a1 a2 ⊢;rw[hy]at rb b1 b2 ⊢;rw[Int.toNat_natCast,Int.toNat_natCast];have hm:=Vp x y (by omega) (by omega)
 have hxy:x*y=x / 2147483648*(y / 2147483648)*4611686018427387904+(x / 2147483648*(y % 2147483648)+x % 2147483648*(y / 2147483648))*2147483648+x % 2147483648*(y % 2147483648):=by
  rw[←WR,Nat.div_add_mod',Nat.div_add_mod']
 have d0:x % 2147483648≤2147483647:=by omega
 have d1:x / 2147483648≤1073741823:=by omega
 have d2:y % 2147483648≤2147483647:=by omega
 have d3:y / 2147483648≤1073741823:=by omega
 generalize x % 2147483648=x0 at *;generalize x / 2147483648=x1 at *;generalize y % 2147483648=y0 at *;generalize y / 2147483648=y1 at *;have p00:x0*y0≤2147483647*2147483647:=Nat.mul_le_mul d0 d2;have p10:x1*y0≤1073741823*2147483647:=Nat.mul_le_mul d1 d2;have p01:x0*y1≤2147483647*1073741823:=Nat.mul_le_mul d0 d3;have p11:x1*y1≤1073741823*1073741823:=Nat.mul_le_mul d1 d3;have hmid:x1*y0+x0*y1≤4611686018427387904:=by omega
 generalize x1*y0+x0*y1=md at *;generalize x1*y1=hi at *;generalize x0*y0=lo at *;generalize x*y=xy at *;have k1:=Dc md 30 30 rfl (by omega)
 rw[show(2:Nat)^30=1073741824 from rfl]at k1
 have k2:=Zas md (by omega)
 have k3:=IW (md % 1073741824) 31 31 rfl (by omega)
 have e3:md % 1073741824*2^31 % 18446744073709551616=md % 1073741824*2147483648:=by omega
 rw[e3]at k3;have k4:IntKind.u64.wrap (4*(hi:Int))=((4*hi:Nat):Int):=by rw[AS];omega
 have k4':IntKind.u64.wrap (2*((md / 1073741824:Nat):Int))=((2*(md / 1073741824):Nat):Int):=by rw[AS];omega
 have k5:IntKind.u64.wrap (((4*hi:Nat):Int)+((2*(md / 1073741824):Nat):Int))=((4*hi+2*(md / 1073741824):Nat):Int):=by rw[AS];omega
 have k6:IntKind.u64.wrap (((4*hi+2*(md / 1073741824):Nat):Int)+((md % 1073741824*2147483648:Nat):Int))=((4*hi+2*(md / 1073741824)+md % 1073741824*2147483648:Nat):Int):=by rw[AS];omega
 have k7:IntKind.u64.wrap (((4*hi+2*(md / 1073741824)+md % 1073741824*2147483648:Nat):Int)+(lo:Int))=((4*hi+2*(md / 1073741824)+md % 1073741824*2147483648+lo:Nat):Int):=by rw[AS];omega
 have k8:((4*hi+2*(md / 1073741824)+md % 1073741824*2147483648+lo:Nat):Int).tmod 2305843009213693950=((xy % 2305843009213693950:Nat):Int):=by
  rw[Int.tmod_eq_emod_of_nonneg (by omega)];omega
 have k9:IntKind.i64.wrap ((xy % 2305843009213693950:Nat):Int)=((xy % 2305843009213693950:Nat):Int):=Uf (by omega)
 refine run ?_;refine cp ra ?_;refine run ?_;refine cp rb ?_;refine run ?_;refine cp hm ?_;refine Aa (F3 @k1 @k2 @k3 @k4 @k4' @k5 @k6 @k7 @k8 @k9) ?_;exact Ad
theorem Ze9(a b:Int)(ha:-9223372036854775808≤a∧a≤9223372036854775807)(hb:-9223372036854775808≤b∧b≤9223372036854775807):AC prog 210 [.it .i64 a,.it .i64 b] [] (.it .i64 ((a % 2305843009213693950+b % 2305843009213693950) % 2305843009213693950)) []:=by
 refine Ap [276] [] func210 ?_;have a1:=Int.emod_nonneg a (show(2305843009213693950:Int)≠0 by omega)
 have a2:=Int.emod_lt_of_pos a (show(0:Int)<2305843009213693950 by omega)
 have b1:=Int.emod_nonneg b (show(2305843009213693950:Int)≠0 by omega)
 have b2:=Int.emod_lt_of_pos b (show(0:Int)<2305843009213693950 by omega)
 refine run ?_;refine cp (H8 a 2305843009213693950 (by omega) (by omega) ha) ?_
 refine run ?_;refine cp (H8 b 2305843009213693950 (by omega) (by omega) hb) ?_
 refine run ?_;refine cp (H8 (a % 2305843009213693950+b % 2305843009213693950) 2305843009213693950 (by omega) (by omega) (by omega)) ?_
 refine run ?_;exact Ad
theorem OM(a e:Int)(ha:-9223372036854775808≤a∧a≤9223372036854775807)(he:-9223372036854775808≤e∧e≤9223372036854775807):AC prog 181 [.it .i64 a,.it .i64 e] [] (.it .i64 (Eh a e:Nat)) []:=by
 refine Ap [276,277] [] func181 ?_;unfold Eh AU;have a1:=Int.emod_nonneg a (show(2305843009213693951:Int)≠0 by omega)
 have a2:=Int.emod_lt_of_pos a (show(0:Int)<2305843009213693951 by omega)
 have ra:=H8 a 2305843009213693951 (by omega) (by omega) ha
 obtain⟨x,hx⟩:=Int.eq_ofNat_of_zero_le a1;rw[hx]at ra a1 a2 ⊢;rw[Int.toNat_natCast,Nat.mod_eq_of_lt (show x<2305843009213693951 by omega)]
 have hE:∃n:Nat,n<9223372036854775808∧((if e<0 then(e % 2305843009213693950).toNat else e.toNat)=n)∧(if e<0 then e % 2305843009213693950 else e)=(n:Int):=by
  split
  ·exact⟨(e % 2305843009213693950).toNat,by omega,rfl,by omega⟩
  ·exact⟨e.toNat,by omega,rfl,by omega⟩
 obtain⟨n,hn,en,eI⟩:=hE;rw[en];have hp0:(n:Nat)<2^63:=by omega
 by_cases hneg:e<0
 focus
  rw[if_pos hneg]at eI;have re:=H8 e 2305843009213693950 (by omega) (by omega) he
  rw[eI]at re;refine run ?_;refine cp re ?_;refine run ?_;refine cp ra ?_;refine run ?_
 rotate_left;focus
  rw[if_neg hneg]at eI;subst eI;refine run ?_;refine cp ra ?_;refine run ?_
 all_goals
  refine Bn (fun m e S=>S=[]∧m≤64 ∧ ∃q r p:Nat,e 1=.it .i64 (q:Int)∧e 5=.it .i64 (r:Int)∧e 6=.it .i64 (p:Int)∧q<2^m∧q<9223372036854775808∧r<2305843009213693951∧p<2305843009213693951∧Gc 64 1 x n=Gc m r p q) 64
   ⟨rfl,by omega,n,1,x,Ab,Ab,Ab,by omega,by omega,by decide,by omega,rfl⟩ ?_
  rintro m e S ⟨rfl,hm,q,r,p,s1,s5,s6,hq,hq2,hr,hp,hpow⟩
  by_cases h0:q=0
  ·subst h0
   rw[Rp]at hpow;rw[hpow];refine Aa (A3 @s1 @s5 @s6) ?_;exact Ad
  obtain⟨m',rfl⟩:∃m',m=m'+1:=⟨m-1,by
   cases m with
   |zero=>simp at hq;omega
   |succ m=>omega⟩
  have hq0:(0:Int)<(q:Int):=by omega
  rw[MW m' r p q]at hpow;have hq':q / 2<2^m':=by rw[Nat.pow_succ]at hq;omega
  have mpp:=Q3 (p:Int) (p:Int) (by omega) (by omega)
  have mrp:=Q3 (r:Int) (p:Int) (by omega) (by omega)
  rw[LR hp hp]at mpp;rw[LR hr hp]at mrp;have lpp:p*p % 2305843009213693951<2305843009213693951:=Nat.mod_lt _ (by decide)
  have lrp:r*p % 2305843009213693951<2305843009213693951:=Nat.mod_lt _ (by decide)
  have t1:(q:Int).tmod 2=((q % 2:Nat):Int):=by rw[Int.tmod_eq_emod_of_nonneg (by omega)];omega
  have t2:(q:Int).tdiv 2=((q / 2:Nat):Int):=by rw[Int.tdiv_eq_ediv_of_nonneg (by omega)];omega
  by_cases ho:q % 2=1
  ·rw[if_pos ho]at hpow
   have hoI:((q % 2:Nat):Int)=1:=by omega
   refine Aa (A7 @s1 @s5 @s6 @t1 @t2 @hoI @hq0) ?_;refine cp mrp ?_;refine Aa (A4 @s1 @s5 @s6 @t2) ?_;refine cp mpp ?_;refine Aa (A4 @s1 @s5 @s6 @t2) ?_;exact As m' (by omega) ⟨rfl,by omega,q / 2,r*p % 2305843009213693951,p*p % 2305843009213693951,Ab,Ab,Ab,hq',by omega,lrp,lpp,hpow⟩
  ·rw[if_neg ho]at hpow
   have hoI:((q % 2:Nat):Int)=0:=by omega
   refine Aa (A7 @s1 @s5 @s6 @t1 @t2 @hoI @hq0) ?_;refine cp mpp ?_;refine Aa (A4 @s1 @s5 @s6 @t2) ?_;exact As m' (by omega) ⟨rfl,by omega,q / 2,r,p*p % 2305843009213693951,Ab,Ab,Ab,hq',by omega,hr,lpp,hpow⟩
theorem Zep(l:By)(h:l.length≤140737488355328):AC prog 278 [.st l] [] (.it .i64 (Sm.num l:Nat)) []:=by
 refine AC.ofBelow (by kernel_rfl) fun w g cargs ht hargs=>?_
 rw[M6 hargs];refine(ZeB ⟨l.toArray⟩ w (by simp[ByteArray.size];omega)).mono ?_
 rintro r w' ⟨rfl,rfl⟩
 exact⟨_,rfl,fun g'=>.it g' _ _,Below.refl _ _⟩
theorem VE(l:By)(h:l.length≤1000000000):AC prog 182 [.st l] [] (.it .i64 (Sg.hash l:Nat)) []:=by
 refine Ap [89,278] [] func182 ?_;have hs:(Sm.sha l).length≤140737488355328:=by show 32≤_;omega
 refine run ?_;refine cp (Q0 l (by omega)) ?_
 refine run ?_;refine cp (Zep _ hs) ?_;refine run ?_;exact Ad
theorem Vo(l:By)(h:l.length≤1000000000):AC prog 104 [.st l] [] (.it .i64 (GO (Sg.hash l):Nat)) []:=by
 refine Ap [182] [] func104 ?_;have hh:=No l;have hc:=VE l h;unfold GO;generalize Sg.hash l=h at *;have e:(h:Int).tmod 2305843009213693949=((h % 2305843009213693949:Nat):Int):=by rw[Int.tmod_eq_emod_of_nonneg (by omega)];omega
 have e2:(1:Int)+((h % 2305843009213693949:Nat):Int)=((1+h % 2305843009213693949:Nat):Int):=by omega
 refine run ?_;refine cp hc ?_;refine Aa (an @e @e2) ?_;exact Ad
theorem Vx(s:Int)(hs:-9223372036854775808≤s∧s≤9223372036854775807):AC prog 103 [.it .i64 s] [] (Bx (Sg.keyOf s)) []:=by
 refine Ap [181] [] func103 ?_;unfold Sg.keyOf;by_cases h1:s<1
 ·rw[if_pos (.inl h1)]
  refine run ?_;exact Ad
 by_cases h2:2305843009213693949<s
 ·have h3:2305843009213693950≤s:=by omega
  rw[if_pos (.inr h2)];refine Aa @h3 ?_;exact Ad
 ·have h3:¬2305843009213693950≤s:=by omega
  rw[if_neg (by omega)]
  obtain⟨n,rfl⟩:=Int.eq_ofNat_of_zero_le (show 0≤s by omega)
  have he:=OM 37 (n:Int) (by omega) (by omega)
  rw[HD 37 37 n rfl (by decide)]at he
  refine run ?_;refine cp he ?_;refine run ?_;exact Ad
theorem VB(seed:By)(hm:seed.length≤100000000):AC prog 46 [.st seed] [] (Bx (Hq seed)) []:=by
 refine Ap [90,104,103] [] func46 ?_;have tm:=Lt seed hm;have tw:(text FF).length=4:=by rfl
 have hr:=LN (Sg.hash (text FF++text seed));have hh:=Vo (text FF++text seed) (by rw[List.length_append];omega)
 unfold Hq;generalize GO (Sg.hash (text FF++text seed))=h at *;refine run ?_;refine cp (Ef FF (by simp)) ?_
 refine run ?_;refine cp (Ef seed (by omega)) ?_
 refine run ?_;refine cp hh ?_;refine run ?_;refine cp (Vx h (by omega)) ?_
 refine run ?_;exact Ad
theorem VA(k:Key)(hs:-9223372036854775808≤k.secret∧k.secret≤9223372036854775807):AC prog 126 [Bx k] [] (.bo k.right) []:=by
 refine Ap [103] [] func126 ?_;unfold Key.right;have ke:decide (k=Sg.keyOf k.secret)=((k.secret==(Sg.keyOf k.secret).secret)&&(k.pub==(Sg.keyOf k.secret).pub)):=by
  generalize Sg.keyOf k.secret=q;obtain⟨a,b⟩:=k;obtain⟨c,d⟩:=q;rw[Bool.eq_iff_iff];simp
 rw[ke];by_cases h1:1≤k.secret
 ·have h2:0<k.secret:=by omega
  rw[decide_eq_true h1];refine Aa @h2 ?_;refine cp (Vx k.secret hs) ?_;refine run ?_;exact Ad
 ·have h2:¬0<k.secret:=by omega
  rw[decide_eq_false h1];refine Aa @h2 ?_;exact Ad
theorem VJ(r p:Int)(m:By)(hm:m.length≤100000000)(hr:-9223372036854775808≤r∧r≤9223372036854775807)(hp:-9223372036854775808≤p∧p≤9223372036854775807):AC prog 209 [.it .i64 r,.it .i64 p,.st m] [] (.it .i64 (D4 r p m:Nat)) []:=by
 refine Ap [90,91,182] [] func209 ?_;have tw:(text GG).length=5:=by rfl
 have tm:=Lt m hm;have l1:=Ec r (by omega)
 have l2:=Ec p (by omega)
 have hlt:=No (text GG++Ah r++Ah p++text m);unfold D4;have hh:=VE (text GG++Ah r++Ah p++text m) (by simp only[List.length_append];omega)
 generalize Sg.hash (text GG++Ah r++Ah p++text m)=h at *;have e:(h:Int).tmod 2305843009213693950=((h % 2305843009213693950:Nat):Int):=by rw[Int.tmod_eq_emod_of_nonneg (by omega)];omega
 refine run ?_;refine cp (Ef GG (by simp)) ?_
 refine run ?_;refine cp (D2 r (by omega)) ?_
 refine run ?_;refine cp (D2 p (by omega)) ?_
 refine run ?_;refine cp (Ef m (by omega)) ?_
 refine run ?_;refine cp hh ?_;refine Aa @e ?_;exact Ad
theorem Zeq(k:Key)(m:By)(hm:m.length≤100000000)(hs:-9223372036854775808≤k.secret∧k.secret≤9223372036854775807):AC prog 127 [Bx k,.st m] [] (JL (Do k m)) []:=by
 refine Ap [126,90,91,104,181,209,211,210] [] func127 ?_;unfold Do;refine run ?_;refine cp (VA k hs) ?_;cases hr:k.right with
 |false=>
  rw[if_neg (by simp)]
  refine run ?_;exact Ad
 | true=>
  rw[if_pos rfl];obtain⟨p1,p2⟩:=Rm hr;obtain⟨q1,q2,_⟩:=Key.right_iff.1 hr;have tm:=Lt m hm;have tw:(text wNonce).length=6:=by rfl
  have l1:=Ec k.secret (by omega)
  have hred:=Vo (text wNonce++Ah k.secret++text m) (by simp only[List.length_append];omega)
  change AC _ _ _ _ (.it .i64 (nonce k m:Nat)) _ at hred;obtain⟨n1,n2⟩:1≤nonce k m∧nonce k m<2305843009213693950:=LN _;generalize nonce k m=u at *;have hexp:=OM 37 (u:Int) (by omega) (by omega)
  rw[HD 37 37 u rfl (by decide)]at hexp
  have hpl:=Fi 37 u;have hch:=VJ (AU 37 u:Nat) k.pub m hm (by omega) (by omega)
  have hel:=PP (AU 37 u:Nat) k.pub m;generalize D4 (AU 37 u:Nat) k.pub m=e at *;have hmul:=ZeD (e:Int) k.secret (by omega) (by omega)
  have hml:EZ e k.secret<2305843009213693950:=Nat.mod_lt _ (by decide)
  have hadd:=Ze9 (u:Int) (EZ e k.secret:Nat) (by omega) (by omega)
  have hval:((u:Int) % 2305843009213693950+((EZ e k.secret:Nat):Int) % 2305843009213693950) % 2305843009213693950=(((u+e*k.secret.toNat) % 2305843009213693950:Nat):Int):=by
   have h1:EZ e k.secret=e*k.secret.toNat % 2305843009213693950:=by
    unfold EZ;rw[show((e:Int) % 2305843009213693950).toNat=e by omega,show(k.secret % 2305843009213693950).toNat=k.secret.toNat by omega]
   rw[h1];generalize e*k.secret.toNat=z;omega
  rw[hval]at hadd;refine run ?_;refine cp (Ef wNonce (by simp)) ?_
  refine run ?_;refine cp (D2 k.secret (by omega)) ?_
  refine run ?_;refine cp (Ef m (by omega)) ?_
  refine run ?_;refine cp hred ?_;refine run ?_;refine cp hexp ?_;refine run ?_;refine cp hch ?_;refine run ?_;refine cp hmul ?_;refine run ?_;refine cp hadd ?_;refine run ?_;exact Ad
theorem Ze6(p:Int)(s:Sig)(h1:1≤p)(h2:p<2305843009213693951)(re:0≤s.e∧s.e<2305843009213693950)(rs:0≤s.s∧s.s<2305843009213693950):AC prog 354 [.it .i64 p,JL s] [] (.it .i64 (Fv p s:Nat)) []:=by
 refine Ap [181,277] [] func354 ?_;have x1:=OM 37 s.s (by omega) (by omega)
 have x2:=OM p (2305843009213693950-s.e) (by omega) (by omega)
 have e1:Eh 37 s.s=AU 37 s.s.toNat:=by
  have :=HD 37 37 s.s.toNat rfl (by decide)
  rwa[Int.toNat_of_nonneg rs.1]at this
 have e2:Eh p (2305843009213693950-s.e)=AU p.toNat (2305843009213693950-s.e).toNat:=by
  have :=HD p p.toNat (2305843009213693950-s.e).toNat (by omega) (by omega)
  rwa[Int.toNat_of_nonneg (by omega)]at this
 rw[e1]at x1;rw[e2]at x2;have l1:=Fi 37 s.s.toNat;have l2:=Fi p.toNat (2305843009213693950-s.e).toNat;have hmul:=Q3 (AU 37 s.s.toNat:Nat) (AU p.toNat (2305843009213693950-s.e).toNat:Nat) (by omega) (by omega)
 rw[LR l1 l2]at hmul;change AC _ _ _ _ (.it .i64 ((Fv p s:Nat):Int)) _ at hmul;generalize Fv p s=c at *;generalize AU 37 s.s.toNat=y1 at *;generalize AU p.toNat (2305843009213693950-s.e).toNat=y2 at *;refine run ?_;refine cp x1 ?_;refine run ?_;refine cp x2 ?_;refine run ?_;refine cp hmul ?_;refine run ?_;exact Ad
theorem Zeu(p:Int)(s:Sig):AC prog 353 [.it .i64 p,JL s] [] (.bo (decide (1≤p)&&decide (p<2305843009213693951)&&decide (0≤s.e)&&decide (s.e<2305843009213693950)&&decide (0≤s.s)&&decide (s.s<2305843009213693950))) []:=by
 refine Ap [] [] func353 ?_;by_cases h1:1≤p
 rotate_left
 ·rw[decide_eq_false h1]
  refine run ?_;exact Ad
 by_cases h2:p<2305843009213693951
 rotate_left
 ·rw[decide_eq_true h1,decide_eq_false h2]
  refine run ?_;exact Ad
 by_cases h3:0≤s.e
 rotate_left
 ·rw[decide_eq_true h1,decide_eq_true h2,decide_eq_false h3]
  refine run ?_;exact Ad
 by_cases h4:s.e<2305843009213693950
 rotate_left
 ·rw[decide_eq_true h1,decide_eq_true h2,decide_eq_true h3,decide_eq_false h4]
  refine run ?_;exact Ad
 by_cases h5:0≤s.s
 rotate_left
 ·rw[decide_eq_true h1,decide_eq_true h2,decide_eq_true h3,decide_eq_true h4,decide_eq_false h5]
  refine run ?_;exact Ad
 rw[decide_eq_true h1,decide_eq_true h2,decide_eq_true h3,decide_eq_true h4,decide_eq_true h5];refine run ?_;exact Ad
theorem Zec(p:Int)(m:By)(s:Sig)(hm:m.length≤100000000):AC prog 313 [.it .i64 p,.st m,JL s] [] (.bo (IP p m s)) []:=by
 refine Ap [353,354,209] [] func313 ?_;have hc:=Zeu p s;unfold IP HA;by_cases h:1≤p∧p<2305843009213693951∧0≤s.e∧s.e<2305843009213693950∧0≤s.s∧s.s<2305843009213693950
 ·obtain⟨h1,h2,h3,h4,h5,h6⟩:=h
  rw[decide_eq_true h1,decide_eq_true h2,decide_eq_true h3,decide_eq_true h4,decide_eq_true h5,decide_eq_true h6]at hc ⊢;have hco:=Ze6 p s h1 h2 ⟨h3,h4⟩ ⟨h5,h6⟩;have hcl:Fv p s<2305843009213693951:=Nat.mod_lt _ (by decide)
  have hch:=VJ (Fv p s:Nat) p m hm (by omega) (by omega)
  generalize Fv p s=c at *;generalize D4 (c:Int) p m=h at *;have hsym:((h:Int)==s.e)=(s.e==(h:Int)):=by rw[Bool.eq_iff_iff];simp only[beq_iff_eq];exact eq_comm
  refine run ?_;refine cp hc ?_;refine run ?_;refine cp hco ?_;refine run ?_;refine cp hch ?_;refine Aa @hsym ?_;exact Ad
 ·have e:(decide (1≤p)&&decide (p<2305843009213693951)&&decide (0≤s.e)&&decide (s.e<2305843009213693950)&&decide (0≤s.s)&&decide (s.s<2305843009213693950))=false:=by
   rw[Bool.eq_false_iff];intro hh;simp only[Bool.and_eq_true,decide_eq_true_eq]at hh;omega
  have e2:(decide (1≤p)&&decide (p<2305843009213693951)&&(decide (0≤s.e)&&decide (s.e<2305843009213693950))&&(decide (0≤s.s)&&decide (s.s<2305843009213693950))&&decide (s.e=(D4 (Fv p s) p m:Nat)))=false:=by
   rw[Bool.eq_false_iff];intro hh;simp only[Bool.and_eq_true,decide_eq_true_eq]at hh;omega
  rw[e]at hc;rw[e2];refine run ?_;refine cp hc ?_;refine run ?_;exact Ad
end Pe
namespace Pe
open Tryz
open Go Go.RowKit Co Sg Ac It
set_option maxRecDepth 100000
set_option maxHeartbeats 4000000
theorem ZhS(l:List By)(hl:l.length≤1000000)(hx:∀x∈l,x.length≤1000000):AC prog 212 [B8 l] [] (.st (list l)) []:=by
 refine Ap [91,90] [] func212 ?_;have hn9:=EL (n:=l.length) (by omega)
 have kn:=D2 (l.length:Int) (by omega)
 rw[I6]at kn;refine run ?_;refine cp kn ?_;refine run ?_;refine Bn (fun m e S=>S=[]∧e 0=B8 l ∧ ∃(k:Nat) (acc:By),e 3=.st acc∧e 4=.it .i64 (k:Int)∧acc=num l.length++((l.take k).map text).flatten∧k≤l.length∧m=l.length-k) l.length
  ⟨rfl,Ab,0,num l.length,Ab,Ab,by simp,by omega,rfl⟩ ?_
 rintro m e S ⟨rfl,s0,k,acc,s3,s4,hacc,hk,rfl⟩
 by_cases hlt:k<l.length
 ·have ga:l[k]? = some l[k]:=List.getElem?_eq_getElem hlt
  have hxk:=hx l[k] (List.getElem_mem hlt);have htl:=Be hxk;have hal:acc.length≤1000009000009:=by
   have h1:=SL (l:=l.take k) fun x h=>hx x (List.mem_of_mem_take h)
   have h2:(l.take k).length*1000009≤1000000*1000009:=Nat.mul_le_mul_right _ (by rw[List.length_take];omega)
   rw[hacc,List.length_append];omega
  have hft:=Yc hlt;generalize l[k]=x at *;refine Aa (A4 @s0 @s3 @s4 @ga) ?_;refine cp (Ef x (by omega)) ?_
  refine Aa (A3 @s0 @s3 @s4) ?_;refine As (l.length-(k+1)) (by omega) ⟨rfl,Ab,k+1,acc++text x,Ab,Ab,by rw[hacc,hft,List.append_assoc],by omega,rfl⟩
 ·obtain rfl:k=l.length:=by omega
  rw[List.take_length]at hacc;refine Aa (A3 @s0 @s3 @s4) ?_;rw[show list l=acc from hacc.symm]
  exact Ad
end Pe
end
section
namespace Pe
open Tryz
open Go Go.RowKit Co
set_option maxRecDepth 100000
set_option maxHeartbeats 4000000
def val:By→Nat
 |[]=>0
 |d::r=>d.toNat % 128+128*val r
end Pe
end
section
namespace Pe
open Tryz
open Go Go.RowKit Co Sg Ac
set_option maxRecDepth 100000
set_option maxHeartbeats 4000000
theorem R6:∀(x y:By),(!Op.bytesLess x y)=(Op.bytesLess y x||y==x)
 |[],[]=>rfl
 |_::_,[]=>rfl
 |[],_::_=>rfl
 | a ::x,b::y=>by
  have ih:=R6 x y;rw[Op.bytesLess,Op.bytesLess];by_cases h:a=b
  ·subst h
   have h0:¬a<a:=by rw[UInt8.lt_iff_toNat_lt];omega
   have hb:(a==a)=true:=beq_self_eq_true a;rw[decide_eq_false h0,hb,show((a::y==a::x):Bool)=(y==x)from by simp]
   simpa using ih
  ·have h1:(a==b)=false:=by simpa using h
   have h2:(b==a)=false:=by simpa using fun e:b=a=>h e.symm
   have h3:((b::y==a::x):Bool)=false:=by simpa using fun e:b=a=>absurd e.symm h
   rw[h1,h2,h3];by_cases h4:a<b
   ·have h5:¬b<a:=by rw[UInt8.lt_iff_toNat_lt]at *;omega
    simp[h4,h5]
   ·have h5:b<a:=by
     rw[UInt8.lt_iff_toNat_lt]at *
     have:a.toNat≠b.toNat:=fun e=>h (UInt8.toNat_inj.1 e)
     omega
    simp[h4,h5]
theorem Pw(b l h:Nat):AC prog 293 [.it .u8 b,.it .u8 l,.it .u8 h] [] (.bo (decide (l≤b)&&decide (b≤h))) []:=by
 refine Ap [] [] func293 ?_;by_cases h1:l≤b
 rotate_left
 ·have h1':¬(l:Int)≤(b:Int):=by omega
  rw[decide_eq_false h1];refine Aa @h1' ?_;exact Ad
 by_cases h2:b≤h
 ·have h1':(l:Int)≤(b:Int):=by omega
  have h2':(b:Int)≤(h:Int):=by omega
  rw[decide_eq_true h1,decide_eq_true h2];refine Aa (an @h1' @h2') ?_;exact Ad
 ·have h1':(l:Int)≤(b:Int):=by omega
  have h2':¬(b:Int)≤(h:Int):=by omega
  rw[decide_eq_true h1,decide_eq_false h2];refine Aa (an @h1' @h2') ?_;exact Ad
theorem Mf(s:By)(hs:s.length≤140737488355328):AC prog 207 [.st s] [] (.bo (Bg s)) []:=by
 refine Ap [293] [] func207 ?_;unfold Bg;refine run ?_;refine Bn (fun m e S=>S=[]∧e 0=.st s ∧ ∃k:Nat,e 3=.it .i64 (k:Int)∧k≤s.length∧(s.take k).all Gn=true∧m=s.length-k) s.length ⟨rfl,Ab,0,Ab,by omega,rfl,rfl⟩ ?_
 rintro m e S ⟨rfl,s0,k,s3,hk,hall,rfl⟩
 by_cases hlt:k<s.length
 rotate_left
 ·obtain rfl:k=s.length:=by omega
  rw[List.take_length]at hall;rw[hall];by_cases h16:s.length=16
  ·have h16':(s.length:Int)=16:=by omega
   rw[decide_eq_true h16];refine Aa (A3 @s0 @s3 @h16') ?_;exact Ad
  ·have h16':¬(s.length:Int)=16:=by omega
   rw[decide_eq_false h16];refine Aa (A3 @s0 @s3 @h16') ?_;exact Ad
 have hg:s[k]? = some s[k]:=List.getElem?_eq_getElem hlt
 have hstep:s.take (k+1)=s.take k++[s[k]]:=List.take_succ_eq_append_getElem hlt;have hbad:Gn s[k]=false→s.all Gn=false:=fun h=>List.all_eq_false.2 ⟨s[k],List.getElem_mem hlt,by simp[h]⟩
 generalize s[k]=b at *;have hu:u8 b=.it .u8 (b.toNat:Int):=rfl;have k1:=Pw b.toNat 48 57;have k2:=Pw b.toNat 97 102;have hx:Gn b=((decide (48≤b.toNat)&&decide (b.toNat≤57))||(decide (97≤b.toNat)&&decide (b.toNat≤102))):=rfl;generalize (decide (48≤b.toNat)&&decide (b.toNat≤57))=c1 at *;generalize (decide (97≤b.toNat)&&decide (b.toNat≤102))=c2 at *;refine Aa (A4 @s0 @s3 @hg @hu) ?_;refine cp k1 ?_;cases c1 with
 |true=>
  refine Aa (A4 @s0 @s3 @hg @hu) ?_;exact As (s.length-(k+1)) (by omega) ⟨rfl,Ab,k+1,Ab,by omega,by rw[hstep,List.all_append,hall];simp[hx],rfl⟩
 | false=>
  refine Aa (A4 @s0 @s3 @hg @hu) ?_;refine cp k2 ?_;cases c2 with
  |true=>
   refine Aa (A4 @s0 @s3 @hg @hu) ?_;exact As (s.length-(k+1)) (by omega) ⟨rfl,Ab,k+1,Ab,by omega,by rw[hstep,List.all_append,hall];simp[hx],rfl⟩
  |false=>
   rw[hbad (by rw[hx];rfl),Bool.and_false]
   refine Aa (A4 @s0 @s3 @hg @hu) ?_;exact Ad
theorem Jd(s:By)(hs:s.length≤140737488355328):AC prog 295 [.st s] [] (.bo (Cq s)) []:=by
 refine Ap [293] [] func295 ?_;refine run ?_;refine Bn (fun m e S=>S=[]∧e 0=.st s ∧ ∃k:Nat,e 3=.it .i64 (k:Int)∧k≤s.length∧(∀j (hj:j<s.length),j<k→(if j=0 then Df s[j]else DO s[j])=true)∧m=s.length-k) s.length ⟨rfl,Ab,0,Ab,by omega,fun j _ h=>absurd h (Nat.not_lt_zero _),rfl⟩ ?_
 rintro m e S ⟨rfl,s0,k,s3,hk,hall,rfl⟩
 by_cases hlt:k<s.length
 rotate_left
 ·obtain rfl:k=s.length:=by omega
  by_cases h1:1≤s.length
  rotate_left
  ·have h1':¬(1:Int)≤(s.length:Int):=by omega
   obtain rfl:s=[]:=List.eq_nil_of_length_eq_zero (by omega)
   refine Aa (A3 @s0 @s3 @h1') ?_;exact Ad
  have h1':(1:Int)≤(s.length:Int):=by omega
  by_cases h2:s.length≤24
  ·have h2':(s.length:Int)≤24:=by omega
   rw[WO (by omega) h2 fun j hj=>hall j hj hj]
   refine Aa (A4 @s0 @s3 @h1' @h2') ?_;exact Ad
  ·have h2':¬(s.length:Int)≤24:=by omega
   rw[WP (by omega)]
   refine Aa (A4 @s0 @s3 @h1' @h2') ?_;exact Ad
 have hg:s[k]? = some s[k]:=List.getElem?_eq_getElem hlt
 have hbad:(if k=0 then Df s[k]else DO s[k])=false→Cq s=false:=WQ hlt
 have hgood:(if k=0 then Df s[k]else DO s[k])=true → ∀j (hj:j<s.length),j<k+1→(if j=0 then Df s[j]else DO s[j])=true:=fun h j hj hjk=>by
  by_cases e:j=k
  ·subst e;exact h
  ·exact hall j hj (by omega)
 generalize s[k]=b at *;have hu:u8 b=.it .u8 (b.toNat:Int):=rfl;have k1:=Pw b.toNat 97 122;have k2:=Pw b.toNat 48 57;have hx:Df b=(decide (97≤b.toNat)&&decide (b.toNat≤122)):=rfl;have hy:DO b=(Df b||(decide (48≤b.toNat)&&decide (b.toNat≤57))||decide (b.toNat=95)):=rfl;rw[←hx]at k1;clear hx;generalize (decide (48≤b.toNat)&&decide (b.toNat≤57))=c2 at *;refine Aa (A4 @s0 @s3 @hg @hu) ?_;refine cp k1 ?_;cases hl:Df b with
 |true=>
  rw[hl]at hy hgood;refine Aa (A4 @s0 @s3 @hg @hu) ?_;exact As (s.length-(k+1)) (by omega) ⟨rfl,Ab,k+1,Ab,by omega,hgood (by rw[hy];simp),rfl⟩
 | false=>
  rw[hl]at hy hbad hgood;by_cases h0:k=0
  ·subst h0
   rw[hbad (by simp)]
   refine Aa (A4 @s0 @s3 @hg @hu) ?_;exact Ad
  have h0':¬(k:Int)=0:=by omega
  rw[if_neg h0]at hbad hgood;cases c2 with
  |true=>
   refine Aa (A5 @s0 @s3 @hg @hu @h0') ?_;refine cp k2 ?_;refine Aa (A4 @s0 @s3 @hg @hu) ?_;exact As (s.length-(k+1)) (by omega) ⟨rfl,Ab,k+1,Ab,by omega,hgood (by rw[hy];simp),rfl⟩
  | false=>
   by_cases h95:b.toNat=95
   ·have e95:((b.toNat:Int) !=95)=false:=by rw[h95];rfl
    refine Aa (A5 @s0 @s3 @hg @hu @h0') ?_;refine cp k2 ?_;refine Aa (A5 @s0 @s3 @hg @hu @e95) ?_;exact As (s.length-(k+1)) (by omega) ⟨rfl,Ab,k+1,Ab,by omega,hgood (by rw[hy,h95];rfl),rfl⟩
   ·have e95:((b.toNat:Int) !=95)=true:=Fw (by omega)
    rw[hbad (by rw[hy,decide_eq_false h95];rfl)]
    refine Aa (A5 @s0 @s3 @hg @hu @h0') ?_;refine cp k2 ?_;refine Aa (A5 @s0 @s3 @hg @hu @e95) ?_;exact Ad
theorem Px(l:List By)(hs:∀s∈l,s.length≤140737488355328)(hl:l.length≤140737488355328):AC prog 298 [B8 l] [] (.bo (CI l)) []:=by
 refine Ai [207] [] func298 ?_;unfold CI;refine run ?_;refine Bn (fun m e S=>S=[]∧e 0=B8 l ∧ ∃k:Nat,e 3=.it .i64 (k:Int)∧k≤l.length∧(∀j (h:j<l.length),j<k→Bg l[j]=true) ∧
  (∀j (h:j+1<l.length),j+1<k→(Op.bytesLess l[j+1] l[j]||l[j+1]==l[j])=false)∧m=l.length-k) l.length ⟨rfl,Ab,0,Ab,by omega,fun j _ h=>absurd h (Nat.not_lt_zero _),fun j _ h=>absurd h (Nat.not_lt_zero _),rfl⟩ ?_
 rintro m e S ⟨rfl,s0,k,s3,hk,hid,hasc,rfl⟩
 by_cases hlt:k<l.length
 rotate_left
 ·obtain rfl:k=l.length:=by omega
  have h1:l.all Bg=true:=List.all_eq_true.2 fun x hx=>by
   obtain⟨j,hj,rfl⟩:=List.getElem_of_mem hx;exact hid j hj hj
  rw[h1,TL fun j h=>hasc j h h]
  by_cases h64:l.length≤64
  ·have h64':(l.length:Int)≤64:=by omega
   rw[decide_eq_true h64];refine Aa (A3 @s0 @s3 @h64') ?_;exact Ad
  ·have h64':¬(l.length:Int)≤64:=by omega
   rw[decide_eq_false h64];refine Aa (A3 @s0 @s3 @h64') ?_;exact Ad
 have hg:l[k]? = some l[k]:=List.getElem?_eq_getElem hlt
 have hsk:=hs l[k] (List.getElem_mem hlt);have ki:=Mf l[k] hsk;cases hb:Bg l[k]with
 |false=>
  have:l.all Bg=false:=List.all_eq_false.2 ⟨l[k],List.getElem_mem hlt,by simp[hb]⟩
  rw[this,Bool.and_false,Bool.false_and];rw[hb]at ki;refine Aa (A3 @s0 @s3 @hg) ?_;refine cp ki ?_;refine Aa (A3 @s0 @s3 @hg) ?_;exact Ad
 | true=>
  rw[hb]at ki;have hid':∀j (h:j<l.length),j<k+1→Bg l[j]=true:=fun j h hj=>by
   by_cases e:j=k
   ·subst e;exact hb
   ·exact hid j h (by omega)
  cases k with
  |zero=>
   refine Aa (A3 @s0 @s3 @hg) ?_;refine cp ki ?_;refine Aa (A3 @s0 @s3 @hg) ?_;exact As (l.length-1) (by omega) ⟨rfl,Ab,1,Ab,by omega,hid',fun j _ h=>by omega,rfl⟩
  | succ k=>
   have hg':l[k]? = some l[k]:=List.getElem?_eq_getElem (by omega)
   have hc:((k+1:Nat):Int)-1=(k:Int):=by omega
   have hpos:(0:Int)<((k+1:Nat):Int):=by omega
   cases hcmp:(Op.bytesLess l[k+1] l[k]||l[k+1]==l[k])with
   | true=>
    have hcm:Op.bytesLess l[k] l[k+1]=false:=by
     have :=R6 l[k] l[k+1];rw[hcmp]at this;simpa using this
    rw[TM (j:=k) hlt hcmp,Bool.and_false];refine Aa (A3 @s0 @s3 @hg) ?_;refine cp ki ?_;refine Aa (A7 @s0 @s3 @hg @hg' @hc @hcm @hpos) ?_;exact Ad
   | false=>
    have hcm:Op.bytesLess l[k] l[k+1]=true:=by
     have :=R6 l[k] l[k+1];rw[hcmp]at this;simpa using this
    refine Aa (A3 @s0 @s3 @hg) ?_;refine cp ki ?_;refine Aa (A7 @s0 @s3 @hg @hg' @hc @hcm @hpos) ?_;exact As (l.length-(k+1+1)) (by omega) ⟨rfl,Ab,k+1+1,Ab,by omega,hid',fun j h hj=>by
     by_cases e:j=k
     ·subst e;exact hcmp
     ·exact hasc j h (by omega),rfl⟩
end Pe
end
end Go.Proofs.YtchpmmjmimaigaaGreatDoor
