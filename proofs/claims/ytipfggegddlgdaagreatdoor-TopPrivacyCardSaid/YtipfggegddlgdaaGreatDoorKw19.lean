import Derived.Test.YtipfggegddlgdaaGreatDoorKw18
set_option linter.unusedSectionVars false
set_option linter.unusedVariables false
set_option linter.unusedSimpArgs false
namespace Go.Proofs.YtipfggegddlgdaaGreatDoor
section
namespace Ql
open Tryz
open Go Co Sg Ac It
def P1(n m:Int):Int:=if n.tmod m<0 then n.tmod m+m else n.tmod m
theorem pickN_in{n m:Int}(hm:0<m):0≤P1 n m∧P1 n m<m:=by
 have h1:-m<n.tmod m∧n.tmod m<m:=by
  rcases Int.le_total 0 n with h|h
  ·rw[Int.tmod_eq_emod_of_nonneg h]
   have :=Int.emod_nonneg n (show m≠0 by omega)
   have :=Int.emod_lt_of_pos n hm;omega
  ·have e:n = -(-n):=by omega
   rw[e,Int.neg_tmod,Int.tmod_eq_emod_of_nonneg (by omega)]
   have :=Int.emod_nonneg (-n) (show m≠0 by omega)
   have :=Int.emod_lt_of_pos (-n) hm;omega
 unfold P1;split<;>omega
end Ql
end
section
namespace Sl
open Tryz
open Go Co Sg Ac It
def pickN47(n m:Int):Int:=if n.tmod m<0 then n.tmod m+m else n.tmod m
theorem pick_in{n m:Int}(hm:0<m):0≤pickN47 n m∧pickN47 n m<m:=Ql.pickN_in hm
end Sl
end
section
namespace Pe
open Tryz
open Go Sm
set_option maxRecDepth 100000
def box(f:FuncId):SObj:=.cells [.fn (.func f) [] [.ptr 0 0]]
end Pe
end
section
namespace Sl
open Tryz
open Go Co Sg Ac It
def Nj:Nat→By
 |0=>[115,48]
 |1=>[115,49]
 |2=>[115,50]
 |_=>[115,51]
def Dw(n:Nat):Key:=Kk (Nj n)
def BH:List Int:=[(Dw 0).pub,(Dw 1).pub,(Dw 2).pub,(Dw 3).pub]
theorem ZaW(n:Nat):(Dw n).right=true:=Qo _
theorem act_signed(ps:List Int){a:Ac.Act}(h:Ac.right a=true):It.right (Ay a)=true∧It.signed ps (Ay a)=true:=by
 have hr:It.right (Ay a)=true:=(TJ (it:=Ay a) rfl).2 ⟨h,rfl,rfl,rfl⟩;refine⟨hr,?_⟩
 unfold It.signed;rw[hr];rfl
end Sl
end
section
namespace Tp
open Tryz
open Go Co Sg Ac It
def dg(a:Ac.Act):By:=It.digest (Ay a)
def Jh(a b:By):Bool:=Op.bytesLess a b||a==b
def Gn:List Ac.Act→By→Nat
 |[],_=>0
 |a::l,d=>if(d==[] || !(dg a==d))=true then Gn l d+1 else 0
def Ff(l:List Ac.Act)(d:By):Bool:=decide (Gn l d<l.length)
def CZ:List Ac.Act→By→Nat
 |[],_=>0
 |a::l,d=>if Jh (dg a) d=true then CZ l d+1 else 0
theorem Qh:∀(l:List Ac.Act) (d:By),CZ l d≤l.length
 |[],_=>Nat.le_refl 0
 |a::l,d=>by
  unfold CZ;have :=Qh l d;split
  ·rw[List.length_cons];omega
  ·exact Nat.zero_le _
def DJ(l:List Ac.Act)(a:Ac.Act):List Ac.Act×Bool:=
 if Ff l (dg a)=true then(l,false)else(l.take (CZ l (dg a))++a::l.drop (CZ l (dg a)),true)
def MG(a b:Ac.Act):Bool:=if a.seq≠b.seq then decide (b.seq<a.seq)else !(Jh (dg a) (dg b))
def E3(out:List Ac.Act)(a:Ac.Act):Nat→Nat
 |0=>0
 |k+1=>if MG (out.getD k Al) a=true then E3 out a k else k+1
theorem PW(out:List Ac.Act)(a:Ac.Act):∀k,E3 out a k≤k
 |0=>Nat.le_refl 0
 |k+1=>by
  unfold E3;have :=PW out a k;split<;>omega
def Er(out:List Ac.Act)(a:Ac.Act):List Ac.Act:=out.take (E3 out a out.length)++a::out.drop (E3 out a out.length)
def D9:List Ac.Act→List Ac.Act→List Ac.Act
 |out,[]=>out
 |out,a::l=>D9 (Er out a) l
def BK(l:List Ac.Act)(id:By):List Ac.Act:=(D9 [] l).filter fun a=>a.author==id
theorem T0{out:List Ac.Act}{a x:Ac.Act}(h:x∈Er out a):x=a∨x∈out:=by
 unfold Er at h;rcases List.mem_append.1 h with h|h
 ·exact .inr (List.mem_of_mem_take h)
 ·rcases List.mem_cons.1 h with h|h
  ·exact .inl h
  ·exact .inr (List.mem_of_mem_drop h)
theorem T1(out:List Ac.Act)(a:Ac.Act):(Er out a).length=out.length+1:=by
 have :=PW out a out.length;unfold Er;rw[List.length_append,List.length_cons,List.length_take,List.length_drop];omega
theorem SY:∀(l out:List Ac.Act) {x:Ac.Act},x∈D9 out l→x∈out∨x∈l
 |[],_,_,h=>.inl h
 | a::l,out,x,h=>by
  rcases SY l (Er out a) h with h|h
  ·rcases T0 h with rfl|h
   ·exact .inr (by simp)
   ·exact .inl h
  ·exact .inr (List.mem_cons_of_mem _ h)
theorem Pt:∀(l out:List Ac.Act),(D9 out l).length=out.length+l.length
 |[],_=>rfl
 |a::l,out=>by rw[D9,Pt l,T1,List.length_cons];omega
theorem YM{l:List Ac.Act}{id:By}{x:Ac.Act}(h:x∈BK l id):x∈l:=by
 have :=SY l [] (List.mem_filter.1 h).1;simpa using this
theorem Zit(l:List Ac.Act)(id:By):(BK l id).length≤l.length:=by
 have h1:=List.length_filter_le (fun a:Ac.Act=>a.author==id) (D9 [] l)
 have h2:=Pt l [];rw[List.length_nil]at h2;unfold BK;omega
structure KeyAt where
 frm:Int
 pub:Int
 home:Int
structure Chn where
 id:By
 acts:List Ac.Act
 keys:List KeyAt
 prev:By
 gen:Int
 fork:Bool
def CL(n:Int):By:=(Sm.hex (Sm.sha (text [97,99,116,111,114]++Ai n))).take 16
def C1(id:By)(a:Ac.Act):Bool:=!(!(a.author==id) || !(a.kind==0) || !(a.seq==0) || !(a.prev==[]) || !(CL a.n==id))&&BO a.n a
def Ct(l:List Ac.Act)(id:By):List Ac.Act:=l.filter (C1 id)
def IS(k:Int):Bool:=k==4||k==5||k==7||k==8||k==10||k==11||k==17||k==23
def Bl:List Ac.Act→By→Option Nat
 |[],_=>none
 |a::l,d=>if dg a=d then some 0 else(Bl l d).map (· + 1)
def FT(c:Chn)(a:Ac.Act):Bool:=
 if a.kind≠6∧a.kind≠13∧a.kind≠14 then true
 else match Bl c.acts a.object with
  |none=>false
  |some i=>if a.kind=6 then IS (c.acts.getD i Al).kind else Cx (c.acts.getD i Al).kind
def Bh(c:Chn)(a:Ac.Act):Bool:=
 Ac.right a&&decide (a.author=c.id)&&decide (a.seq=c.acts.length)&&decide (a.prev=c.prev)&&decide ((a.kind=0)↔(c.acts.length=0))&&FT c a
def BM(c:Chn):KeyAt:=c.keys.getD (c.keys.length-1) ⟨0,0,0⟩
def BJ(l:List Ac.Act)(c:Chn):List Ac.Act:=l.filter fun a=>Bh c a&&BO (BM c).pub a
def Bz(c:Chn)(a:Ac.Act):Chn:=
 { c with acts:=c.acts++[a],prev:=dg a,keys:=if a.kind=18∨a.kind=0 then c.keys++[⟨if a.kind=0 then 0 else((c.acts.length+1:Nat):Int),a.n,a.m⟩]else c.keys }
def C3:Nat→List Ac.Act→Chn→Chn
 |0,_,c=>c
 |n+1,l,c=>match BJ l c with
  |[a]=>C3 n l (Bz c a)
  |[]=>{ c with fork:=false }
  |_=>{ c with fork:=true }
def Bc(k:List Ac.Act)(id:By):Chn:=
 match Ct (BK k id) id with
 |[a]=>C3 (k.length+1) (BK k id) (Bz ⟨id,[],[],[],0,false⟩ a)
 |[]=>⟨id,[],[],[],0,false⟩
 |_=>⟨id,[],[],[],0,true⟩
structure COk(c:Chn)(N:Nat):Prop where
 acts:∀a∈c.acts,Ac.right a=true
 len:c.acts.length≤N
 klen:c.keys.length≤N
 key:c.acts≠[]→c.keys≠[]
 keys:∀k∈c.keys,(0≤k.frm∧k.frm≤N) ∧ ∃a,Ac.right a=true∧k.pub=a.n∧k.home=a.m
structure Ties where
 follows:List By
 accepts:List By
 blocks:List By
 mutes:List By
def CU(l:List By)(x:By):List By:=
 if l.contains x=true then l else l.takeWhile (fun y=>Op.bytesLess y x)++x::l.dropWhile (fun y=>Op.bytesLess y x)
def B3(l:List By)(x:By):List By:=l.filter fun y=>!(y==x)
def EP(acts:List Ac.Act):List By:=if acts.any (fun a=>a.kind==6)=true then acts.map dg else []
def Cy:List By→By→Option Nat
 |[],_=>none
 |x::l,d=>if x=d then some 0 else(Cy l d).map (· + 1)
def EA(t:Ties)(acts:List Ac.Act)(i:Nat)(l:List By):Ties:=
 let a:=acts.getD i Al
 if a.kind=7 then { t with follows:=CU t.follows a.target }
 else if a.kind=8 then { t with accepts:=CU t.accepts a.target }
 else if a.kind=9 then { t with accepts:=B3 t.accepts a.target }
 else if a.kind=10 then { t with blocks:=CU t.blocks a.target,follows:=B3 t.follows a.target,accepts:=B3 t.accepts a.target }
 else if a.kind=11 then { t with mutes:=CU t.mutes a.target }
 else if a.kind=6 then match Cy l a.object with
  |none=>t
  |some j=>if i≤j then t else
   let b:=acts.getD j Al
   if b.kind=7 then { t with follows:=B3 t.follows b.target }
   else if b.kind=8 then { t with accepts:=B3 t.accepts b.target }
   else if b.kind=10 then { t with blocks:=B3 t.blocks b.target }
   else if b.kind=11 then { t with mutes:=B3 t.mutes b.target }
   else t
 else t
def Dv(acts:List Ac.Act):Nat→Ties
 |0=>⟨[],[],[],[]⟩
 |i+1=>EA (Dv acts i) acts i (EP acts)
def Cm(c:Chn)(n:Nat):Ties:=Dv c.acts (min n c.acts.length)
def Eu(l:List By)(s:By):List By:=
 if(l.dropWhile (fun y=>Op.bytesLess y s)).head?=some s then l else l.takeWhile (fun y=>Op.bytesLess y s)++s::l.dropWhile (fun y=>Op.bytesLess y s)
def AR(c:Chn)(n:Nat):List By:=
 ((Cm c n).accepts.filter fun x=>!(x==c.id) && !((Cm c n).blocks.contains x)).foldl Eu []
def Bm(acts:List Ac.Act):Nat→Nat×Int
 |0=>(0,0)
 |i+1=>
  let r:=Bm acts i
  let a:=acts.getD i Al
  if a.kind=16∧a.scope=1∧a.group=[]∧a.epoch=r.2 then(i,r.2+1)else r
def Bb(c:Chn)(n:Nat):Nat×Bool:=let r:=Bm c.acts (min n c.acts.length);(r.1,decide (0<r.2))
def AS(c:Chn)(n:Nat):Int×List By×Bool:=
 if(Bb c n).2=true then((c.acts.getD (Bb c n).1 Al).epoch,(c.acts.getD (Bb c n).1 Al).to,true)else(0,[],false)
def Gr(c:Chn)(n:Nat):Bool:=!(AS c n).2.2 || !decide ((AS c n).2.1=AR c n)
def hL(l:List By):By:=Sm.sha (list l)
abbrev M9:By:=[115,116,114,101,97,109]
abbrev M8:By:=[116,97,103]
def Gj(key nonce:By)(s:By):By:=(List.range s.length).map fun i=>(s.getD i 0)^^^((hL [M9,key,nonce,Ai ((i / 32:Nat):Int)]).getD (i % 32) 0)
def Nh(key nonce data:By):By:=(hL [M8,key,nonce,data]).take 16
def G2(key nonce plain:By):Box:=⟨nonce,Gj key nonce plain,Nh key nonce (Gj key nonce plain)⟩
abbrev O7:By:=[119,114,97,112]
abbrev KQ:By:=[101,112,104]
abbrev wNonce:By:=[110,111,110,99,101]
def KL(to eph shared:Int):By:=hL [O7,Ai to,Ai eph,Ai shared]
def GX(p:Int)(seed plain:By):Wrap:=
 let e:Nat:=1+Sm.num (hL [KQ,seed,Ai p]) % 2305843009213693949
 let eph:Int:=((Bq 37 e:Nat):Int)
 let k:=KL p eph ((Bq p.toNat e:Nat):Int)
 ⟨p,eph,G2 k (hL [wNonce,k]) plain⟩
abbrev Zar:By:=[101,112,111,99,104]
abbrev wPost:By:=[112,111,115,116]
abbrev wGrant:By:=[103,114,97,110,116]
def Di(k:Key)(e:Int):By:=Sm.sha (text Zar++Ai k.secret++Ai 1++text []++Ai e)
def BU(c:Chn)(kind time:Int):Ac.Act:={ Al with author:=c.id,seq:=(c.acts.length:Int),prev:=c.prev,kind:=kind,time:=time }
def CI(c:Chn)(i:Nat):KeyAt×Bool:=
 if c.acts.length<i then(⟨0,0,0⟩,false)else match c.keys.reverse.find? (fun k=>decide (k.frm≤(i:Int)))with
  |some k=>(k,true)
  |none=>(⟨0,0,0⟩,false)
def Gw(k:Key)(c:Chn):Bool:=(CI c c.acts.length).2&&k.right&&decide ((CI c c.acts.length).1.pub=k.pub)
def H3(k:Key)(c:Chn):Bool:=Gr c c.acts.length || !decide ((CI c (Bb c c.acts.length).1).1.pub=k.pub)
def EI(k:Key)(c:Chn)(time:Int)(txt:By):Ac.Act×Int:=
 if Gw k c=false then(Al,10)
 else if H3 k c=true then(Al,11)
 else
  let e:=(AS c c.acts.length).1
  let s:=Di k e
  let x:=text wPost++text s++Ai (c.acts.length:Int)++text c.prev++text txt
  let d:={ BU c 1 time with scope:=1,epoch:=e,body:=G2 s (Sm.sha x) txt }
  if Ac.right d=false then(Al,1)else if Bh c d=false then(Al,4)else(Bs k d,0)
def Du(s:By):Nat→List Int→List Wrap
 |_,[]=>[]
 |i,p::l=>GX p (text wGrant++text s++Ai (i:Int)) s::Du s (i+1) l
def Gq(k:Key)(c:Chn)(ps:List Int)(time:Int):Ac.Act:=
 let l:=AR c c.acts.length
 if ps.any (fun p=>decide (p<1)||decide (2305843009213693950<p))=true then Al
 else if 64<l.length then Al
 else if Gw k c=false then Al
 else
  let e:=if(AS c c.acts.length).2.2=true then(AS c c.acts.length).1+1 else(AS c c.acts.length).1
  let a:={ BU c 16 time with scope:=1,to:=l,epoch:=e,wraps:=Du (Di k e) 0 ps }
  if Ac.right a=false then Al else Bs k a
structure Wish where
 who:Int
 kind:Int
 on:Int
 whom:Int
 txt:By
 spoil:Int
def AL(n m:Int):Int:=Sl.pickN47 n m
def D1(n:Nat):By:=if n<10 then [UInt8.ofNat (48+n)]else [UInt8.ofNat (48+n / 10),UInt8.ofNat (48+n % 10)]
def AF(who:Int)(moves:Nat):Key:=Kk ([97,99,116,111,114,32]++D1 (AL who 4).toNat++[32]++D1 moves)
def AE(who:Int):By:=CL (AF who 0).pub
def Bi(who me time:Int):Ac.Act:=
 Bs (AF who 0) { Al with author:=AE who,kind:=0,time:=time,text:=[97,99,116,111,114]++D1 (AL who 4).toNat,n:=(AF who 0).pub,m:=me }
def Fw(k:List Ac.Act):List By:=(k.filter fun a=>Cx a.kind).map dg
def LM(k:List Ac.Act)(on:Int):By:=if Fw k=[]then dg (Bi 0 0 0)else(Fw k).getD (AL on (Fw k).length).toNat []
def Ie(c:Chn)(low high:Int):By:=
 match c.acts.tail.reverse.find? (fun a=>decide (low≤a.kind)&&decide (a.kind≤high))with
 |some a=>dg a
 |none=>dg (c.acts.getD 0 Al)
def Dy(k:List Ac.Act)(c:Chn)(w:Wish)(a:Ac.Act):Ac.Act:=
 if a.kind=1 then { a with text:=w.txt }
 else if a.kind=2∨a.kind=3 then { a with text:=w.txt,object:=LM k w.on }
 else if a.kind=5∨a.kind=4 then { a with object:=LM k w.on }
 else if a.kind=6 then { a with object:=Ie c 4 11 }
 else if a.kind=13 then { a with object:=Ie c 1 3 }
 else if a.kind=14 then { a with object:=Ie c 1 3,text:=w.txt }
 else if a.kind=15 then { a with group:=[102,114,105,101,110,100,115],to:=[AE w.whom] }
 else if a.kind=18 then { a with n:=(AF w.who c.keys.length).pub,m:=AL w.whom 3 }
 else { a with target:=AE w.whom }
def CY(k:List Ac.Act)(ids:List By):List Int:=ids.map fun i=>if(Bc k i).keys=[]then 1 else(BM (Bc k i)).pub
def GF(k:List Ac.Act)(c:Chn)(key:Key)(w:Wish)(time:Int):Ac.Act:=
 if(EI key c time w.txt).2≠11 then(EI key c time w.txt).1
 else if(CY k (AR c c.acts.length)).any (fun p=>p==1)=true then Bs key { BU c 1 time with text:=w.txt }
 else Gq key c (CY k (AR c c.acts.length)) time
def Ca(w:Wish):Int:=([1,1,2,3,5,4,6,7,8,10,11,13,14,15,18,-1]:List Int).getD (AL w.kind 16).toNat 0
def Dd(k:List Ac.Act)(me time:Int)(w:Wish):Ac.Act:=
 let c:=Bc k (AE w.who)
 if c.acts=[]then Bi w.who me time
 else if Ca w<0 then GF k c (AF w.who (c.keys.length-1)) w time
 else Bs (AF w.who (c.keys.length-1)) (Dy k c w (BU c (Ca w) time))
def B4(k:List Ac.Act)(me time:Int)(w:Wish):Ac.Act:=
 let a:=Dd k me time w
 let s:=AL w.spoil 12
 if s=0 then { a with sig:={ a.sig with s:=AL (IntKind.i64.wrap (a.sig.s+1)) 1000 } }
 else if s=1 then { a with seq:=IntKind.i64.wrap (a.seq+1) }
 else if s=2 then { a with text:=a.text++[120] }
 else if s=3 then { a with author:=AE (IntKind.i64.wrap (w.who+1)) }
 else if s=4 then { a with prev:=dg a }
 else a
def ES(k:List Ac.Act)(me:Int)(a:Ac.Act):Int:=
 let c:=Bc k a.author
 if Ac.right a=false then 1
 else if Ff k (dg a)=true then 13
 else if a.kind=0 then
  if a.m≠me then 10 else if c.acts≠[]∨c.fork=true then 13 else if CL a.n≠a.author then 1 else if BO a.n a=false then 3 else 0
 else if c.acts=[]then 6
 else if c.fork=true then 5
 else if(BM c).home≠me∧(a.kind≠18∨a.m≠me)then 10
 else if Bh c a=false then 4
 else if BO (BM c).pub a=false then 3
 else 0
def Eh(k:List Ac.Act)(w:Wish):Int:=if(Bc k (AE w.who)).keys=[]then AL w.whom 3 else(BM (Bc k (AE w.who))).home
def FB:Int→List Wish→List Ac.Act→List Ac.Act→List Ac.Act
 |_,[],_,out=>out
 |i,w::l,k,out=>
  let me:=Eh k w
  let a:=B4 k me i w
  if ES k me a=0 then FB (i+1) l (DJ k a).1 (out++[a])else FB (i+1) l k out
end Tp
end
section
namespace Pe
open Tryz
open Go Go.RowKit Co Sg Ac It
set_option maxRecDepth 100000
set_option maxHeartbeats 4000000
abbrev AP(l:List Int):AV:=.sl .ro (l.map (AV.it .i64))
structure InL(l:List Int):Prop where
 len:l.length≤140737488351232
 rng:∀i∈l,-9223372036854775808≤i∧i≤9223372036854775807
end Pe
end
section
namespace Pe
open Tryz
open Go Go.RowKit Co Sg Ac It Sl
set_option maxRecDepth 100000
set_option maxHeartbeats 4000000
structure EOk(l:List It.Entry):Prop where
 len:l.length≤1000000
 iz:∀e∈l,Iz e.item
theorem EOk.take{l:List It.Entry}(h:EOk l)(n:Nat):EOk (l.take n):=⟨by have :=h.len;rw[List.length_take];omega,fun e he=>h.iz e (List.mem_of_mem_take he)⟩
theorem EOk.drop{l:List It.Entry}(h:EOk l)(n:Nat):EOk (l.drop n):=⟨by have :=h.len;rw[List.length_drop];omega,fun e he=>h.iz e (List.mem_of_mem_drop he)⟩
end Pe
end
section
namespace Pe
open Tryz
open Go Go.RowKit Co
set_option maxRecDepth 100000
set_option maxHeartbeats 4000000
theorem Wc:∀(f n:Nat),n<f→n<9223372036854775808→AC prog 77 [.it .i64 n] [] (.st (num n)) []
 |0,n,h,_=>absurd h (Nat.not_lt_zero _)
 | f+1,n,hf,hn=>by
  by_cases hs:n<128
  ·refine Ar [77] [] func77 ?_
   have h0:¬(n:Int)<0:=by omega
   have h1:(n:Int)<128:=by omega
   have hw:IntKind.u8.wrap (n:Int)=(n:Int):=KM (by omega) (by omega)
   have hb:bytesOf [AV.it .u8 (n:Int)]=some [UInt8.ofNat n]:=by
    rw[show(AV.it .u8 (n:Int))=u8 (UInt8.ofNat n)from by unfold u8;rw[NU (by omega)]]
    exact Kw [UInt8.ofNat n]
   rw[H8 hs];refine Ab (A4 @h0 @h1 @hw @hb) ?_;exact Ad
  ·have ih:=Wc f (n / 128) (by omega) (by omega)
   refine Ar [77] [] func77 ?_;have h0:¬(n:Int)<0:=by omega
   have h1:¬(n:Int)<128:=by omega
   have hm:(n:Int).tmod 128=((n % 128:Nat):Int):=by rw[Int.tmod_eq_emod_of_nonneg (by omega)];omega
   have hd:(n:Int).tdiv 128=((n / 128:Nat):Int):=by rw[Int.tdiv_eq_ediv_of_nonneg (by omega)];omega
   have hw:IntKind.u8.wrap (128+((n % 128:Nat):Int))=((128+n % 128:Nat):Int):=by rw[show(128:Int)+((n % 128:Nat):Int)=((128+n % 128:Nat):Int)from by omega];exact KM (by omega) (by omega)
   have hb:bytesOf [AV.it .u8 ((128+n % 128:Nat):Int)]=some [UInt8.ofNat (128+n % 128)]:=by
    rw[show(AV.it .u8 ((128+n % 128:Nat):Int))=u8 (UInt8.ofNat (128+n % 128))from by unfold u8;rw[NU (by omega)]]
    exact Kw [UInt8.ofNat (128+n % 128)]
   have hl:=EJ (n:=n / 128) (by omega)
   rw[LS hs];refine Ab (A6 @h0 @h1 @hm @hd @hw @hb) ?_;refine cp ih ?_;refine run ?_;exact Ad
theorem B2(n:Int)(h:n<9223372036854775808):AC prog 77 [.it .i64 n] [] (.st (Ai n)) []:=by
 by_cases h0:n<0
 ·refine Ar [77] [] func77 ?_
  rw[show Ai n=[]from by unfold Ai;rw[if_pos h0]]
  refine run ?_;exact Ad
 ·obtain⟨m,rfl⟩:∃m:Nat,n=(m:Int):=⟨n.toNat,by omega⟩
  rw[H9];exact Wc (m+1) m (by omega) (by omega)
theorem Ck(s:By)(h:s.length≤1000000000):AC prog 76 [.st s] [] (.st (text s)) []:=by
 refine Ar [77] [] func76 ?_;have k:=B2 (s.length:Int) (by omega)
 rw[H9]at k;have hl:=EJ (n:=s.length) (by omega)
 unfold text;refine run ?_;refine cp k ?_;refine run ?_;exact Ad
end Pe
namespace Pe
open Tryz
open Go Go.RowKit Co Sg
set_option maxRecDepth 100000
set_option maxHeartbeats 4000000
theorem Zgg(a m:Int)(hm:0<m):a % m=if a.tmod m<0 then a.tmod m+m else a.tmod m:=by
 rw[Int.emod_eq_tmod];have hb:=Int.emod_nonneg a (show m≠0 by omega)
 have ht:=Int.tmod_lt_of_pos a hm;by_cases h0:0≤a
 ·have :=Int.tmod_nonneg m h0
  rw[if_pos (.inl h0),if_neg (by omega)];omega
 ·by_cases hd:m ∣ a
  ·rw[if_pos (.inr hd),Int.tmod_eq_zero_of_dvd hd];simp
  ·have hneg:a.tmod m<0:=by
    have h2:=Int.emod_eq_tmod (a:=a) (b:=m);rw[if_neg (by rintro(h|h);exact h0 h;exact hd h)]at h2
    have h3:=Int.emod_lt_of_pos a hm
    have:(m.natAbs:Int)=m:=by omega
    omega
   rw[if_neg (by rintro(h|h);exact h0 h;exact hd h),if_pos hneg]
   omega
theorem Yy(a:Nat)(ha:a<18446744073709551616):Go.bits .and .u64 (a:Int) 2147483647=((a % 2147483648:Nat):Int):=by
 have :=bits_nat .and Nat.land (.inl ⟨rfl,rfl⟩) a 2147483647 ha (by omega) .u64 (.inl rfl)
 have e:Nat.land a 2147483647=a % 2147483648:=Nat.and_two_pow_sub_one_eq_mod a 31;rw[e]at this;exact this.trans (D7 (by omega))
theorem Yz(a:Nat)(ha:a<18446744073709551616):Go.bits .and .u64 (a:Int) 1073741823=((a % 1073741824:Nat):Int):=by
 have :=bits_nat .and Nat.land (.inl ⟨rfl,rfl⟩) a 1073741823 ha (by omega) .u64 (.inl rfl)
 have e:Nat.land a 1073741823=a % 1073741824:=Nat.and_two_pow_sub_one_eq_mod a 30;rw[e]at this;exact this.trans (D7 (by omega))
theorem R6{n:Nat}(h:n<9223372036854775808):IntKind.i64.wrap (n:Int)=(n:Int):=wrap64 (by omega) (by omega)
theorem UG(x0 x1 y0 y1:Nat):(x1*2147483648+x0)*(y1*2147483648+y0)=x1*y1*4611686018427387904+(x1*y0+x0*y1)*2147483648+x0*y0:=by
 grind
theorem G4(a m:Int)(hm:0<m)(hm':m<4611686018427387904)(ha:-9223372036854775808≤a∧a≤9223372036854775807):AC prog 243 [.it .i64 a,.it .i64 m] [] (.it .i64 (a % m)) []:=by
 refine Ar [] [] func243 ?_;have h1:=Zgg a m hm;have h2:-m≤a.tmod m∧a.tmod m<m:=by
  have hb:=Int.emod_nonneg a (show m≠0 by omega)
  have hc:=Int.emod_lt_of_pos a hm;have ht:=Int.tmod_lt_of_pos a hm;split at h1<;>omega
 have hm0:m≠0:=by omega
 obtain⟨t,ht⟩:∃t,a.tmod m=t:=⟨_,rfl⟩
 rw[ht]at h1 h2;rw[h1];by_cases h0:t<0
 ·rw[if_pos h0]
  refine Ab (an @ht @hm0) ?_;exact Ad
 ·rw[if_neg h0]
  refine Ab (an @ht @hm0) ?_;exact Ad
theorem Tu(a b:Nat)(ha:a<2305843009213693952)(hb:b<2305843009213693952):AC prog 245 [.it .i64 a,.it .i64 b] [] (.tup [.it .u64 ((a / 2147483648*(b / 2147483648):Nat):Int),.it .u64 ((a / 2147483648*(b % 2147483648)+a % 2147483648*(b / 2147483648):Nat):Int),.it .u64 ((a % 2147483648*(b % 2147483648):Nat):Int)]) []:=by
 refine Ar [] [] func245 ?_;have wa:=D7 (n:=a) (by omega)
 have wb:=D7 (n:=b) (by omega)
 have hx0:=Yy a (by omega)
 have hy0:=Yy b (by omega)
 have hx1:=Ea a 31 31 rfl (by omega)
 have hy1:=Ea b 31 31 rfl (by omega)
 rw[show(2:Nat)^31=2147483648 from rfl]at hx1 hy1
 have b0:a % 2147483648≤2147483647:=by omega
 have b1:a / 2147483648≤1073741823:=by omega
 have b2:b % 2147483648≤2147483647:=by omega
 have b3:b / 2147483648≤1073741823:=by omega
 generalize a % 2147483648=x0 at *;generalize a / 2147483648=x1 at *;generalize b % 2147483648=y0 at *;generalize b / 2147483648=y1 at *;have p00:x0*y0≤2147483647*2147483647:=Nat.mul_le_mul b0 b2;have p10:x1*y0≤1073741823*2147483647:=Nat.mul_le_mul b1 b2;have p01:x0*y1≤2147483647*1073741823:=Nat.mul_le_mul b0 b3;have p11:x1*y1≤1073741823*1073741823:=Nat.mul_le_mul b1 b3;have c00:((x0:Int)*(y0:Int))=((x0*y0:Nat):Int):=by push_cast;rfl
 have c10:((x1:Int)*(y0:Int))=((x1*y0:Nat):Int):=by push_cast;rfl
 have c01:((x0:Int)*(y1:Int))=((x0*y1:Nat):Int):=by push_cast;rfl
 have c11:((x1:Int)*(y1:Int))=((x1*y1:Nat):Int):=by push_cast;rfl
 generalize x0*y0=q00 at *;generalize x1*y0=q10 at *;generalize x0*y1=q01 at *;generalize x1*y1=q11 at *;have w00:IntKind.u64.wrap (q00:Int)=(q00:Int):=D7 (by omega)
 have w10:IntKind.u64.wrap (q10:Int)=(q10:Int):=D7 (by omega)
 have w01:IntKind.u64.wrap (q01:Int)=(q01:Int):=D7 (by omega)
 have w11:IntKind.u64.wrap (q11:Int)=(q11:Int):=D7 (by omega)
 have ws:IntKind.u64.wrap ((q10:Int)+(q01:Int))=((q10+q01:Nat):Int):=by rw[BC];omega
 refine Ab (an @wa (an @wb (an @hx0 (an @hy0 (An @hx1 @hy1 @c00 @c10 @c01 @c11 @w00 @w10 @w01 @w11 @ws))))) ?_;exact Ad
theorem PH(a b:Int)(ha:-9223372036854775808≤a∧a≤9223372036854775807)(hb:-9223372036854775808≤b∧b≤9223372036854775807):AC prog 244 [.it .i64 a,.it .i64 b] [] (.it .i64 (Ja a b:Nat)) []:=by
 refine Ar [243,245] [] func244 ?_;unfold Ja;have a1:=Int.emod_nonneg a (show(2305843009213693951:Int)≠0 by omega)
 have a2:=Int.emod_lt_of_pos a (show(0:Int)<2305843009213693951 by omega)
 have b1:=Int.emod_nonneg b (show(2305843009213693951:Int)≠0 by omega)
 have b2:=Int.emod_lt_of_pos b (show(0:Int)<2305843009213693951 by omega)
 obtain⟨x,hx⟩:=Int.eq_ofNat_of_zero_le a1;obtain⟨y,hy⟩:=Int.eq_ofNat_of_zero_le b1;have ra:=G4 a 2305843009213693951 (by omega) (by omega) ha
 have rb:=G4 b 2305843009213693951 (by omega) (by omega) hb
 rw[hx]at ra a1 a2 ⊢;rw[hy]at rb b1 b2 ⊢;rw[Int.toNat_natCast,Int.toNat_natCast];have hm:=Tu x y (by omega) (by omega)
 have hxy:x*y=x / 2147483648*(y / 2147483648)*4611686018427387904+(x / 2147483648*(y % 2147483648)+x % 2147483648*(y / 2147483648))*2147483648+x % 2147483648*(y % 2147483648):=by
  rw[←UG,Nat.div_add_mod',Nat.div_add_mod']
 have d0:x % 2147483648≤2147483647:=by omega
 have d1:x / 2147483648≤1073741823:=by omega
 have d2:y % 2147483648≤2147483647:=by omega
 have d3:y / 2147483648≤1073741823:=by omega
 generalize x % 2147483648=x0 at *;generalize x / 2147483648=x1 at *;generalize y % 2147483648=y0 at *;generalize y / 2147483648=y1 at *;have p00:x0*y0≤2147483647*2147483647:=Nat.mul_le_mul d0 d2;have p10:x1*y0≤1073741823*2147483647:=Nat.mul_le_mul d1 d2;have p01:x0*y1≤2147483647*1073741823:=Nat.mul_le_mul d0 d3;have p11:x1*y1≤1073741823*1073741823:=Nat.mul_le_mul d1 d3;have hmid:x1*y0+x0*y1≤4611686018427387904:=by omega
 generalize x1*y0+x0*y1=md at *;generalize x1*y1=hi at *;generalize x0*y0=lo at *;generalize x*y=xy at *;have k1:=Ea md 30 30 rfl (by omega)
 rw[show(2:Nat)^30=1073741824 from rfl]at k1
 have k2:=Yz md (by omega)
 have k3:=Lw (md % 1073741824) 31 31 rfl (by omega)
 have e3:md % 1073741824*2^31 % 18446744073709551616=md % 1073741824*2147483648:=by omega
 rw[e3]at k3;have k4:IntKind.u64.wrap (2*(hi:Int))=((2*hi:Nat):Int):=by rw[BC];omega
 have k5:IntKind.u64.wrap (((2*hi:Nat):Int)+((md / 1073741824:Nat):Int))=((2*hi+md / 1073741824:Nat):Int):=by rw[BC];omega
 have k6:IntKind.u64.wrap (((2*hi+md / 1073741824:Nat):Int)+((md % 1073741824*2147483648:Nat):Int))=((2*hi+md / 1073741824+md % 1073741824*2147483648:Nat):Int):=by rw[BC];omega
 have k7:IntKind.u64.wrap (((2*hi+md / 1073741824+md % 1073741824*2147483648:Nat):Int)+(lo:Int))=((2*hi+md / 1073741824+md % 1073741824*2147483648+lo:Nat):Int):=by rw[BC];omega
 have k8:((2*hi+md / 1073741824+md % 1073741824*2147483648+lo:Nat):Int).tmod 2305843009213693951=((xy % 2305843009213693951:Nat):Int):=by
  rw[Int.tmod_eq_emod_of_nonneg (by omega)];omega
 have k9:IntKind.i64.wrap ((xy % 2305843009213693951:Nat):Int)=((xy % 2305843009213693951:Nat):Int):=R6 (by omega)
 refine run ?_;refine cp ra ?_;refine run ?_;refine cp rb ?_;refine run ?_;refine cp hm ?_;refine Ab (A9 @k1 @k2 @k3 @k4 @k5 @k6 @k7 @k8 @k9) ?_;exact Ad
theorem Zck(a b:Int)(ha:-9223372036854775808≤a∧a≤9223372036854775807)(hb:-9223372036854775808≤b∧b≤9223372036854775807):AC prog 152 [.it .i64 a,.it .i64 b] [] (.it .i64 (I9 a b:Nat)) []:=by
 refine Ar [243,245] [] func152 ?_;unfold I9;have a1:=Int.emod_nonneg a (show(2305843009213693950:Int)≠0 by omega)
 have a2:=Int.emod_lt_of_pos a (show(0:Int)<2305843009213693950 by omega)
 have b1:=Int.emod_nonneg b (show(2305843009213693950:Int)≠0 by omega)
 have b2:=Int.emod_lt_of_pos b (show(0:Int)<2305843009213693950 by omega)
 obtain⟨x,hx⟩:=Int.eq_ofNat_of_zero_le a1;obtain⟨y,hy⟩:=Int.eq_ofNat_of_zero_le b1;have ra:=G4 a 2305843009213693950 (by omega) (by omega) ha
 have rb:=G4 b 2305843009213693950 (by omega) (by omega) hb
 rw[hx]at ra a1 a2 ⊢;rw[hy]at rb b1 b2 ⊢;rw[Int.toNat_natCast,Int.toNat_natCast];have hm:=Tu x y (by omega) (by omega)
 have hxy:x*y=x / 2147483648*(y / 2147483648)*4611686018427387904+(x / 2147483648*(y % 2147483648)+x % 2147483648*(y / 2147483648))*2147483648+x % 2147483648*(y % 2147483648):=by
  rw[←UG,Nat.div_add_mod',Nat.div_add_mod']
 have d0:x % 2147483648≤2147483647:=by omega
 have d1:x / 2147483648≤1073741823:=by omega
 have d2:y % 2147483648≤2147483647:=by omega
 have d3:y / 2147483648≤1073741823:=by omega
 generalize x % 2147483648=x0 at *;generalize x / 2147483648=x1 at *;generalize y % 2147483648=y0 at *;generalize y / 2147483648=y1 at *;have p00:x0*y0≤2147483647*2147483647:=Nat.mul_le_mul d0 d2;have p10:x1*y0≤1073741823*2147483647:=Nat.mul_le_mul d1 d2;have p01:x0*y1≤2147483647*1073741823:=Nat.mul_le_mul d0 d3;have p11:x1*y1≤1073741823*1073741823:=Nat.mul_le_mul d1 d3;have hmid:x1*y0+x0*y1≤4611686018427387904:=by omega
 generalize x1*y0+x0*y1=md at *;generalize x1*y1=hi at *;generalize x0*y0=lo at *;generalize x*y=xy at *;have k1:=Ea md 30 30 rfl (by omega)
 rw[show(2:Nat)^30=1073741824 from rfl]at k1
 have k2:=Yz md (by omega)
 have k3:=Lw (md % 1073741824) 31 31 rfl (by omega)
 have e3:md % 1073741824*2^31 % 18446744073709551616=md % 1073741824*2147483648:=by omega
 rw[e3]at k3;have k4:IntKind.u64.wrap (4*(hi:Int))=((4*hi:Nat):Int):=by rw[BC];omega
 have k4':IntKind.u64.wrap (2*((md / 1073741824:Nat):Int))=((2*(md / 1073741824):Nat):Int):=by rw[BC];omega
 have k5:IntKind.u64.wrap (((4*hi:Nat):Int)+((2*(md / 1073741824):Nat):Int))=((4*hi+2*(md / 1073741824):Nat):Int):=by rw[BC];omega
 have k6:IntKind.u64.wrap (((4*hi+2*(md / 1073741824):Nat):Int)+((md % 1073741824*2147483648:Nat):Int))=((4*hi+2*(md / 1073741824)+md % 1073741824*2147483648:Nat):Int):=by rw[BC];omega
 have k7:IntKind.u64.wrap (((4*hi+2*(md / 1073741824)+md % 1073741824*2147483648:Nat):Int)+(lo:Int))=((4*hi+2*(md / 1073741824)+md % 1073741824*2147483648+lo:Nat):Int):=by rw[BC];omega
 have k8:((4*hi+2*(md / 1073741824)+md % 1073741824*2147483648+lo:Nat):Int).tmod 2305843009213693950=((xy % 2305843009213693950:Nat):Int):=by
  rw[Int.tmod_eq_emod_of_nonneg (by omega)];omega
 have k9:IntKind.i64.wrap ((xy % 2305843009213693950:Nat):Int)=((xy % 2305843009213693950:Nat):Int):=R6 (by omega)
 refine run ?_;refine cp ra ?_;refine run ?_;refine cp rb ?_;refine run ?_;refine cp hm ?_;refine Ab (BZ @k1 @k2 @k3 @k4 @k4' @k5 @k6 @k7 @k8 @k9) ?_;exact Ad
theorem ZcI(a b:Int)(ha:-9223372036854775808≤a∧a≤9223372036854775807)(hb:-9223372036854775808≤b∧b≤9223372036854775807):AC prog 151 [.it .i64 a,.it .i64 b] [] (.it .i64 ((a % 2305843009213693950+b % 2305843009213693950) % 2305843009213693950)) []:=by
 refine Ar [243] [] func151 ?_;have a1:=Int.emod_nonneg a (show(2305843009213693950:Int)≠0 by omega)
 have a2:=Int.emod_lt_of_pos a (show(0:Int)<2305843009213693950 by omega)
 have b1:=Int.emod_nonneg b (show(2305843009213693950:Int)≠0 by omega)
 have b2:=Int.emod_lt_of_pos b (show(0:Int)<2305843009213693950 by omega)
 refine run ?_;refine cp (G4 a 2305843009213693950 (by omega) (by omega) ha) ?_
 refine run ?_;refine cp (G4 b 2305843009213693950 (by omega) (by omega) hb) ?_
 refine run ?_;refine cp (G4 (a % 2305843009213693950+b % 2305843009213693950) 2305843009213693950 (by omega) (by omega) (by omega)) ?_
 refine run ?_;exact Ad
theorem Ka(a e:Int)(ha:-9223372036854775808≤a∧a≤9223372036854775807)(he:-9223372036854775808≤e∧e≤9223372036854775807):AC prog 150 [.it .i64 a,.it .i64 e] [] (.it .i64 (Ev a e:Nat)) []:=by
 refine Ar [243,244] [] func150 ?_;unfold Ev Bq;have a1:=Int.emod_nonneg a (show(2305843009213693951:Int)≠0 by omega)
 have a2:=Int.emod_lt_of_pos a (show(0:Int)<2305843009213693951 by omega)
 have ra:=G4 a 2305843009213693951 (by omega) (by omega) ha
 obtain⟨x,hx⟩:=Int.eq_ofNat_of_zero_le a1;rw[hx]at ra a1 a2 ⊢;rw[Int.toNat_natCast,Nat.mod_eq_of_lt (show x<2305843009213693951 by omega)]
 have hE:∃n:Nat,n<9223372036854775808∧((if e<0 then(e % 2305843009213693950).toNat else e.toNat)=n)∧(if e<0 then e % 2305843009213693950 else e)=(n:Int):=by
  split
  ·exact⟨(e % 2305843009213693950).toNat,by omega,rfl,by omega⟩
  ·exact⟨e.toNat,by omega,rfl,by omega⟩
 obtain⟨n,hn,en,eI⟩:=hE;rw[en];have hp0:(n:Nat)<2^63:=by omega
 by_cases hneg:e<0
 focus
  rw[if_pos hneg]at eI;have re:=G4 e 2305843009213693950 (by omega) (by omega) he
  rw[eI]at re;refine run ?_;refine cp re ?_;refine run ?_;refine cp ra ?_;refine run ?_
 rotate_left;focus
  rw[if_neg hneg]at eI;subst eI;refine run ?_;refine cp ra ?_;refine run ?_
 all_goals
  refine AN (fun m e S=>S=[]∧m≤64 ∧ ∃q r p:Nat,e 1=.it .i64 (q:Int)∧e 5=.it .i64 (r:Int)∧e 6=.it .i64 (p:Int)∧q<2^m∧q<9223372036854775808∧r<2305843009213693951∧p<2305843009213693951∧FQ 64 1 x n=FQ m r p q) 64
   ⟨rfl,by omega,n,1,x,Aa,Aa,Aa,by omega,by omega,by decide,by omega,rfl⟩ ?_
  rintro m e S ⟨rfl,hm,q,r,p,s1,s5,s6,hq,hq2,hr,hp,hpow⟩
  by_cases h0:q=0
  ·subst h0
   rw[PQ]at hpow;rw[hpow];refine Ab (A3 @s1 @s5 @s6) ?_;exact Ad
  obtain⟨m',rfl⟩:∃m',m=m'+1:=⟨m-1,by
   cases m with
   |zero=>simp at hq;omega
   |succ m=>omega⟩
  have hq0:(0:Int)<(q:Int):=by omega
  rw[LK m' r p q]at hpow;have hq':q / 2<2^m':=by rw[Nat.pow_succ]at hq;omega
  have mpp:=PH (p:Int) (p:Int) (by omega) (by omega)
  have mrp:=PH (r:Int) (p:Int) (by omega) (by omega)
  rw[Kf hp hp]at mpp;rw[Kf hr hp]at mrp;have lpp:p*p % 2305843009213693951<2305843009213693951:=Nat.mod_lt _ (by decide)
  have lrp:r*p % 2305843009213693951<2305843009213693951:=Nat.mod_lt _ (by decide)
  have t1:(q:Int).tmod 2=((q % 2:Nat):Int):=by rw[Int.tmod_eq_emod_of_nonneg (by omega)];omega
  have t2:(q:Int).tdiv 2=((q / 2:Nat):Int):=by rw[Int.tdiv_eq_ediv_of_nonneg (by omega)];omega
  by_cases ho:q % 2=1
  ·rw[if_pos ho]at hpow
   have hoI:((q % 2:Nat):Int)=1:=by omega
   refine Ab (A7 @s1 @s5 @s6 @t1 @t2 @hoI @hq0) ?_;refine cp mrp ?_;refine Ab (A4 @s1 @s5 @s6 @t2) ?_;refine cp mpp ?_;refine Ab (A4 @s1 @s5 @s6 @t2) ?_;exact Aj m' (by omega) ⟨rfl,by omega,q / 2,r*p % 2305843009213693951,p*p % 2305843009213693951,Aa,Aa,Aa,hq',by omega,lrp,lpp,hpow⟩
  ·rw[if_neg ho]at hpow
   have hoI:((q % 2:Nat):Int)=0:=by omega
   refine Ab (A7 @s1 @s5 @s6 @t1 @t2 @hoI @hq0) ?_;refine cp mpp ?_;refine Ab (A4 @s1 @s5 @s6 @t2) ?_;exact Aj m' (by omega) ⟨rfl,by omega,q / 2,r,p*p % 2305843009213693951,Aa,Aa,Aa,hq',by omega,hr,lpp,hpow⟩
theorem Ts(l:By)(h:l.length≤140737488355328):AC prog 290 [.st l] [] (.it .i64 (Sm.num l:Nat)) []:=by
 refine AC.ofBelow (by kernel_rfl) fun w g cargs ht hargs=>?_
 rw[LX hargs];refine(Zci ⟨l.toArray⟩ w (by simp[ByteArray.size];omega)).mono ?_
 rintro r w' ⟨rfl,rfl⟩
 exact⟨_,rfl,fun g'=>.it g' _ _,Below.refl _ _⟩
theorem TL(l:By)(h:l.length≤1000000000):AC prog 236 [.st l] [] (.it .i64 (Sg.hash l:Nat)) []:=by
 refine Ar [75,290] [] func236 ?_;have hs:(Sm.sha l).length≤140737488355328:=by show 32≤_;omega
 refine run ?_;refine cp (J8 l (by omega)) ?_
 refine run ?_;refine cp (Ts _ hs) ?_;refine run ?_;exact Ad
theorem Tt(l:By)(h:l.length≤1000000000):AC prog 140 [.st l] [] (.it .i64 (H6 (Sg.hash l):Nat)) []:=by
 refine Ar [236] [] func140 ?_;have hh:=QA l;have hc:=TL l h;unfold H6;generalize Sg.hash l=h at *;have e:(h:Int).tmod 2305843009213693949=((h % 2305843009213693949:Nat):Int):=by rw[Int.tmod_eq_emod_of_nonneg (by omega)];omega
 have e2:(1:Int)+((h % 2305843009213693949:Nat):Int)=((1+h % 2305843009213693949:Nat):Int):=by omega
 refine run ?_;refine cp hc ?_;refine Ab (an @e @e2) ?_;exact Ad
theorem TC(s:Int)(hs:-9223372036854775808≤s∧s≤9223372036854775807):AC prog 139 [.it .i64 s] [] (E9 (Sg.keyOf s)) []:=by
 refine Ar [150] [] func139 ?_;unfold Sg.keyOf;by_cases h1:s<1
 ·rw[if_pos (.inl h1)]
  refine run ?_;exact Ad
 by_cases h2:2305843009213693949<s
 ·have h3:2305843009213693950≤s:=by omega
  rw[if_pos (.inr h2)];refine Ab @h3 ?_;exact Ad
 ·have h3:¬2305843009213693950≤s:=by omega
  rw[if_neg (by omega)]
  obtain⟨n,rfl⟩:=Int.eq_ofNat_of_zero_le (show 0≤s by omega)
  have he:=Ka 37 (n:Int) (by omega) (by omega)
  rw[Hp 37 37 n rfl (by decide)]at he
  refine run ?_;refine cp he ?_;refine run ?_;exact Ad
theorem TE(seed:By)(hm:seed.length≤100000000):AC prog 69 [.st seed] [] (E9 (Kk seed)) []:=by
 refine Ar [76,140,139] [] func69 ?_;have tm:=Nf seed hm;have tw:(text IQ).length=4:=by rfl
 have hr:=NO (Sg.hash (text IQ++text seed));have hh:=Tt (text IQ++text seed) (by rw[List.length_append];omega)
 unfold Kk;generalize H6 (Sg.hash (text IQ++text seed))=h at *;refine run ?_;refine cp (Ck IQ (by simp)) ?_
 refine run ?_;refine cp (Ck seed (by omega)) ?_
 refine run ?_;refine cp hh ?_;refine run ?_;refine cp (TC h (by omega)) ?_
 refine run ?_;exact Ad
theorem PI(k:Key)(hs:-9223372036854775808≤k.secret∧k.secret≤9223372036854775807):AC prog 82 [E9 k] [] (.bo k.right) []:=by
 refine Ar [139] [] func82 ?_;unfold Key.right;have ke:decide (k=Sg.keyOf k.secret)=((k.secret==(Sg.keyOf k.secret).secret)&&(k.pub==(Sg.keyOf k.secret).pub)):=by
  generalize Sg.keyOf k.secret=q;obtain⟨a,b⟩:=k;obtain⟨c,d⟩:=q;rw[Bool.eq_iff_iff];simp
 rw[ke];by_cases h1:1≤k.secret
 ·have h2:0<k.secret:=by omega
  rw[decide_eq_true h1];refine Ab @h2 ?_;refine cp (TC k.secret hs) ?_;refine run ?_;exact Ad
 ·have h2:¬0<k.secret:=by omega
  rw[decide_eq_false h1];refine Ab @h2 ?_;exact Ad
theorem TR(r p:Int)(m:By)(hm:m.length≤100000000)(hr:-9223372036854775808≤r∧r≤9223372036854775807)(hp:-9223372036854775808≤p∧p≤9223372036854775807):AC prog 149 [.it .i64 r,.it .i64 p,.st m] [] (.it .i64 (D3 r p m:Nat)) []:=by
 refine Ar [76,77,236] [] func149 ?_;have tw:(text Gb).length=5:=by rfl
 have tm:=Nf m hm;have l1:=LU r (by omega)
 have l2:=LU p (by omega)
 have hlt:=QA (text Gb++Ai r++Ai p++text m);unfold D3;have hh:=TL (text Gb++Ai r++Ai p++text m) (by simp only[List.length_append];omega)
 generalize Sg.hash (text Gb++Ai r++Ai p++text m)=h at *;have e:(h:Int).tmod 2305843009213693950=((h % 2305843009213693950:Nat):Int):=by rw[Int.tmod_eq_emod_of_nonneg (by omega)];omega
 refine run ?_;refine cp (Ck Gb (by simp)) ?_
 refine run ?_;refine cp (B2 r (by omega)) ?_
 refine run ?_;refine cp (B2 p (by omega)) ?_
 refine run ?_;refine cp (Ck m (by omega)) ?_
 refine run ?_;refine cp hh ?_;refine Ab @e ?_;exact Ad
theorem Zb9(k:Key)(m:By)(hm:m.length≤100000000)(hs:-9223372036854775808≤k.secret∧k.secret≤9223372036854775807):AC prog 83 [E9 k,.st m] [] (Lu (EF k m)) []:=by
 refine Ar [82,76,77,140,150,149,152,151] [] func83 ?_;unfold EF;refine run ?_;refine cp (PI k hs) ?_;cases hr:k.right with
 |false=>
  rw[if_neg (by simp)]
  refine run ?_;exact Ad
 | true=>
  rw[if_pos rfl];obtain⟨p1,p2⟩:=T2 hr;obtain⟨q1,q2,_⟩:=Key.right_iff.1 hr;have tm:=Nf m hm;have tw:(text wNonce).length=6:=by rfl
  have l1:=LU k.secret (by omega)
  have hred:=Tt (text wNonce++Ai k.secret++text m) (by simp only[List.length_append];omega)
  change AC _ _ _ _ (.it .i64 (nonce k m:Nat)) _ at hred;obtain⟨n1,n2⟩:1≤nonce k m∧nonce k m<2305843009213693950:=NO _;generalize nonce k m=u at *;have hexp:=Ka 37 (u:Int) (by omega) (by omega)
  rw[Hp 37 37 u rfl (by decide)]at hexp
  have hpl:=GG 37 u;have hch:=TR (Bq 37 u:Nat) k.pub m hm (by omega) (by omega)
  have hel:=Q8 (Bq 37 u:Nat) k.pub m;generalize D3 (Bq 37 u:Nat) k.pub m=e at *;have hmul:=Zck (e:Int) k.secret (by omega) (by omega)
  have hml:I9 e k.secret<2305843009213693950:=Nat.mod_lt _ (by decide)
  have hadd:=ZcI (u:Int) (I9 e k.secret:Nat) (by omega) (by omega)
  have hval:((u:Int) % 2305843009213693950+((I9 e k.secret:Nat):Int) % 2305843009213693950) % 2305843009213693950=(((u+e*k.secret.toNat) % 2305843009213693950:Nat):Int):=by
   have h1:I9 e k.secret=e*k.secret.toNat % 2305843009213693950:=by
    unfold I9;rw[show((e:Int) % 2305843009213693950).toNat=e by omega,show(k.secret % 2305843009213693950).toNat=k.secret.toNat by omega]
   rw[h1];generalize e*k.secret.toNat=z;omega
  rw[hval]at hadd;refine run ?_;refine cp (Ck wNonce (by simp)) ?_
  refine run ?_;refine cp (B2 k.secret (by omega)) ?_
  refine run ?_;refine cp (Ck m (by omega)) ?_
  refine run ?_;refine cp hred ?_;refine run ?_;refine cp hexp ?_;refine run ?_;refine cp hch ?_;refine run ?_;refine cp hmul ?_;refine run ?_;refine cp hadd ?_;refine run ?_;exact Ad
theorem ZcG(p:Int)(s:Sig)(h1:1≤p)(h2:p<2305843009213693951)(re:0≤s.e∧s.e<2305843009213693950)(rs:0≤s.s∧s.s<2305843009213693950):AC prog 222 [.it .i64 p,Lu s] [] (.it .i64 (Fg p s:Nat)) []:=by
 refine Ar [150,244] [] func222 ?_;have x1:=Ka 37 s.s (by omega) (by omega)
 have x2:=Ka p (2305843009213693950-s.e) (by omega) (by omega)
 have e1:Ev 37 s.s=Bq 37 s.s.toNat:=by
  have :=Hp 37 37 s.s.toNat rfl (by decide)
  rwa[Int.toNat_of_nonneg rs.1]at this
 have e2:Ev p (2305843009213693950-s.e)=Bq p.toNat (2305843009213693950-s.e).toNat:=by
  have :=Hp p p.toNat (2305843009213693950-s.e).toNat (by omega) (by omega)
  rwa[Int.toNat_of_nonneg (by omega)]at this
 rw[e1]at x1;rw[e2]at x2;have l1:=GG 37 s.s.toNat;have l2:=GG p.toNat (2305843009213693950-s.e).toNat;have hmul:=PH (Bq 37 s.s.toNat:Nat) (Bq p.toNat (2305843009213693950-s.e).toNat:Nat) (by omega) (by omega)
 rw[Kf l1 l2]at hmul;change AC _ _ _ _ (.it .i64 ((Fg p s:Nat):Int)) _ at hmul;generalize Fg p s=c at *;generalize Bq 37 s.s.toNat=y1 at *;generalize Bq p.toNat (2305843009213693950-s.e).toNat=y2 at *;refine run ?_;refine cp x1 ?_;refine run ?_;refine cp x2 ?_;refine run ?_;refine cp hmul ?_;refine run ?_;exact Ad
theorem Zcb(p:Int)(s:Sig):AC prog 221 [.it .i64 p,Lu s] [] (.bo (decide (1≤p)&&decide (p<2305843009213693951)&&decide (0≤s.e)&&decide (s.e<2305843009213693950)&&decide (0≤s.s)&&decide (s.s<2305843009213693950))) []:=by
 refine Ar [] [] func221 ?_;by_cases h1:1≤p
 rotate_left
 ·rw[decide_eq_false h1]
  refine run ?_;exact Ad
 by_cases h2:p<2305843009213693951
 rotate_left
 ·rw[decide_eq_true h1,decide_eq_false h2]
  refine run ?_;exact Ad
 by_cases h3:0≤s.e
 rotate_left
 ·rw[decide_eq_true h1,decide_eq_true h2,decide_eq_false h3]
  refine run ?_;exact Ad
 by_cases h4:s.e<2305843009213693950
 rotate_left
 ·rw[decide_eq_true h1,decide_eq_true h2,decide_eq_true h3,decide_eq_false h4]
  refine run ?_;exact Ad
 by_cases h5:0≤s.s
 rotate_left
 ·rw[decide_eq_true h1,decide_eq_true h2,decide_eq_true h3,decide_eq_true h4,decide_eq_false h5]
  refine run ?_;exact Ad
 rw[decide_eq_true h1,decide_eq_true h2,decide_eq_true h3,decide_eq_true h4,decide_eq_true h5];refine run ?_;exact Ad
theorem ZbV(p:Int)(m:By)(s:Sig)(hm:m.length≤100000000):AC prog 133 [.it .i64 p,.st m,Lu s] [] (.bo (HQ p m s)) []:=by
 refine Ar [221,222,149] [] func133 ?_;have hc:=Zcb p s;unfold HQ GN;by_cases h:1≤p∧p<2305843009213693951∧0≤s.e∧s.e<2305843009213693950∧0≤s.s∧s.s<2305843009213693950
 ·obtain⟨h1,h2,h3,h4,h5,h6⟩:=h
  rw[decide_eq_true h1,decide_eq_true h2,decide_eq_true h3,decide_eq_true h4,decide_eq_true h5,decide_eq_true h6]at hc ⊢;have hco:=ZcG p s h1 h2 ⟨h3,h4⟩ ⟨h5,h6⟩;have hcl:Fg p s<2305843009213693951:=Nat.mod_lt _ (by decide)
  have hch:=TR (Fg p s:Nat) p m hm (by omega) (by omega)
  generalize Fg p s=c at *;generalize D3 (c:Int) p m=h at *;have hsym:((h:Int)==s.e)=(s.e==(h:Int)):=by rw[Bool.eq_iff_iff];simp only[beq_iff_eq];exact eq_comm
  refine run ?_;refine cp hc ?_;refine run ?_;refine cp hco ?_;refine run ?_;refine cp hch ?_;refine Ab @hsym ?_;exact Ad
 ·have e:(decide (1≤p)&&decide (p<2305843009213693951)&&decide (0≤s.e)&&decide (s.e<2305843009213693950)&&decide (0≤s.s)&&decide (s.s<2305843009213693950))=false:=by
   rw[Bool.eq_false_iff];intro hh;simp only[Bool.and_eq_true,decide_eq_true_eq]at hh;omega
  have e2:(decide (1≤p)&&decide (p<2305843009213693951)&&(decide (0≤s.e)&&decide (s.e<2305843009213693950))&&(decide (0≤s.s)&&decide (s.s<2305843009213693950))&&decide (s.e=(D3 (Fg p s) p m:Nat)))=false:=by
   rw[Bool.eq_false_iff];intro hh;simp only[Bool.and_eq_true,decide_eq_true_eq]at hh;omega
  rw[e]at hc;rw[e2];refine run ?_;refine cp hc ?_;refine run ?_;exact Ad
end Pe
namespace Pe
open Tryz
open Go Go.RowKit Co Sg Ac It
set_option maxRecDepth 100000
set_option maxHeartbeats 4000000
theorem Wg(l:List By)(hl:l.length≤1000000)(hx:∀x∈l,x.length≤1000000):AC prog 153 [Av l] [] (.st (list l)) []:=by
 refine Ar [77,76] [] func153 ?_;have hn9:=EJ (n:=l.length) (by omega)
 have kn:=B2 (l.length:Int) (by omega)
 rw[H9]at kn;refine run ?_;refine cp kn ?_;refine run ?_;refine AN (fun m e S=>S=[]∧e 0=Av l ∧ ∃(k:Nat) (acc:By),e 3=.st acc∧e 4=.it .i64 (k:Int)∧acc=num l.length++((l.take k).map text).flatten∧k≤l.length∧m=l.length-k) l.length
  ⟨rfl,Aa,0,num l.length,Aa,Aa,by simp,by omega,rfl⟩ ?_
 rintro m e S ⟨rfl,s0,k,acc,s3,s4,hacc,hk,rfl⟩
 by_cases hlt:k<l.length
 ·have ga:l[k]? = some l[k]:=List.getElem?_eq_getElem hlt
  have hxk:=hx l[k] (List.getElem_mem hlt);have htl:=BL hxk;have hal:acc.length≤1000009000009:=by
   have h1:=QM (l:=l.take k) fun x h=>hx x (List.mem_of_mem_take h)
   have h2:(l.take k).length*1000009≤1000000*1000009:=Nat.mul_le_mul_right _ (by rw[List.length_take];omega)
   rw[hacc,List.length_append];omega
  have hft:=Wn hlt;generalize l[k]=x at *;refine Ab (A4 @s0 @s3 @s4 @ga) ?_;refine cp (Ck x (by omega)) ?_
  refine Ab (A3 @s0 @s3 @s4) ?_;refine Aj (l.length-(k+1)) (by omega) ⟨rfl,Aa,k+1,acc++text x,Aa,Aa,by rw[hacc,hft,List.append_assoc],by omega,rfl⟩
 ·obtain rfl:k=l.length:=by omega
  rw[List.take_length]at hacc;refine Ab (A3 @s0 @s3 @s4) ?_;rw[show list l=acc from hacc.symm]
  exact Ad
end Pe
end
section
namespace Pe
open Tryz
open Go Go.RowKit Co
set_option maxRecDepth 100000
set_option maxHeartbeats 4000000
def val:By→Nat
 |[]=>0
 |d::r=>d.toNat % 128+128*val r
end Pe
end
section
namespace Pe
open Tryz
open Go Go.RowKit Co Sg Ac
set_option maxRecDepth 100000
set_option maxHeartbeats 4000000
theorem Qk:∀(x y:By),(!Op.bytesLess x y)=(Op.bytesLess y x||y==x)
 |[],[]=>rfl
 |_::_,[]=>rfl
 |[],_::_=>rfl
 | a ::x,b::y=>by
  have ih:=Qk x y;rw[Op.bytesLess,Op.bytesLess];by_cases h:a=b
  ·subst h
   have h0:¬a<a:=by rw[UInt8.lt_iff_toNat_lt];omega
   have hb:(a==a)=true:=beq_self_eq_true a;rw[decide_eq_false h0,hb,show((a::y==a::x):Bool)=(y==x)from by simp]
   simpa using ih
  ·have h1:(a==b)=false:=by simpa using h
   have h2:(b==a)=false:=by simpa using fun e:b=a=>h e.symm
   have h3:((b::y==a::x):Bool)=false:=by simpa using fun e:b=a=>absurd e.symm h
   rw[h1,h2,h3];by_cases h4:a<b
   ·have h5:¬b<a:=by rw[UInt8.lt_iff_toNat_lt]at *;omega
    simp[h4,h5]
   ·have h5:b<a:=by
     rw[UInt8.lt_iff_toNat_lt]at *
     have:a.toNat≠b.toNat:=fun e=>h (UInt8.toNat_inj.1 e)
     omega
    simp[h4,h5]
theorem Oq(b l h:Nat):AC prog 212 [.it .u8 b,.it .u8 l,.it .u8 h] [] (.bo (decide (l≤b)&&decide (b≤h))) []:=by
 refine Ar [] [] func212 ?_;by_cases h1:l≤b
 rotate_left
 ·have h1':¬(l:Int)≤(b:Int):=by omega
  rw[decide_eq_false h1];refine Ab @h1' ?_;exact Ad
 by_cases h2:b≤h
 ·have h1':(l:Int)≤(b:Int):=by omega
  have h2':(b:Int)≤(h:Int):=by omega
  rw[decide_eq_true h1,decide_eq_true h2];refine Ab (an @h1' @h2') ?_;exact Ad
 ·have h1':(l:Int)≤(b:Int):=by omega
  have h2':¬(b:Int)≤(h:Int):=by omega
  rw[decide_eq_true h1,decide_eq_false h2];refine Ab (an @h1' @h2') ?_;exact Ad
theorem Kq(s:By)(hs:s.length≤140737488355328):AC prog 130 [.st s] [] (.bo (Bw s)) []:=by
 refine Ar [212] [] func130 ?_;unfold Bw;refine run ?_;refine AN (fun m e S=>S=[]∧e 0=.st s ∧ ∃k:Nat,e 3=.it .i64 (k:Int)∧k≤s.length∧(s.take k).all FX=true∧m=s.length-k) s.length ⟨rfl,Aa,0,Aa,by omega,rfl,rfl⟩ ?_
 rintro m e S ⟨rfl,s0,k,s3,hk,hall,rfl⟩
 by_cases hlt:k<s.length
 rotate_left
 ·obtain rfl:k=s.length:=by omega
  rw[List.take_length]at hall;rw[hall];by_cases h16:s.length=16
  ·have h16':(s.length:Int)=16:=by omega
   rw[decide_eq_true h16];refine Ab (A3 @s0 @s3 @h16') ?_;exact Ad
  ·have h16':¬(s.length:Int)=16:=by omega
   rw[decide_eq_false h16];refine Ab (A3 @s0 @s3 @h16') ?_;exact Ad
 have hg:s[k]? = some s[k]:=List.getElem?_eq_getElem hlt
 have hstep:s.take (k+1)=s.take k++[s[k]]:=List.take_succ_eq_append_getElem hlt;have hbad:FX s[k]=false→s.all FX=false:=fun h=>List.all_eq_false.2 ⟨s[k],List.getElem_mem hlt,by simp[h]⟩
 generalize s[k]=b at *;have hu:u8 b=.it .u8 (b.toNat:Int):=rfl;have k1:=Oq b.toNat 48 57;have k2:=Oq b.toNat 97 102;have hx:FX b=((decide (48≤b.toNat)&&decide (b.toNat≤57))||(decide (97≤b.toNat)&&decide (b.toNat≤102))):=rfl;generalize (decide (48≤b.toNat)&&decide (b.toNat≤57))=c1 at *;generalize (decide (97≤b.toNat)&&decide (b.toNat≤102))=c2 at *;refine Ab (A4 @s0 @s3 @hg @hu) ?_;refine cp k1 ?_;cases c1 with
 |true=>
  refine Ab (A4 @s0 @s3 @hg @hu) ?_;exact Aj (s.length-(k+1)) (by omega) ⟨rfl,Aa,k+1,Aa,by omega,by rw[hstep,List.all_append,hall];simp[hx],rfl⟩
 | false=>
  refine Ab (A4 @s0 @s3 @hg @hu) ?_;refine cp k2 ?_;cases c2 with
  |true=>
   refine Ab (A4 @s0 @s3 @hg @hu) ?_;exact Aj (s.length-(k+1)) (by omega) ⟨rfl,Aa,k+1,Aa,by omega,by rw[hstep,List.all_append,hall];simp[hx],rfl⟩
  |false=>
   rw[hbad (by rw[hx];rfl),Bool.and_false]
   refine Ab (A4 @s0 @s3 @hg @hu) ?_;exact Ad
theorem Ij(s:By)(hs:s.length≤140737488355328):AC prog 214 [.st s] [] (.bo (Cd s)) []:=by
 refine Ar [212] [] func214 ?_;refine run ?_;refine AN (fun m e S=>S=[]∧e 0=.st s ∧ ∃k:Nat,e 3=.it .i64 (k:Int)∧k≤s.length∧(∀j (hj:j<s.length),j<k→(if j=0 then C0 s[j]else Do s[j])=true)∧m=s.length-k) s.length ⟨rfl,Aa,0,Aa,by omega,fun j _ h=>absurd h (Nat.not_lt_zero _),rfl⟩ ?_
 rintro m e S ⟨rfl,s0,k,s3,hk,hall,rfl⟩
 by_cases hlt:k<s.length
 rotate_left
 ·obtain rfl:k=s.length:=by omega
  by_cases h1:1≤s.length
  rotate_left
  ·have h1':¬(1:Int)≤(s.length:Int):=by omega
   obtain rfl:s=[]:=List.eq_nil_of_length_eq_zero (by omega)
   refine Ab (A3 @s0 @s3 @h1') ?_;exact Ad
  have h1':(1:Int)≤(s.length:Int):=by omega
  by_cases h2:s.length≤24
  ·have h2':(s.length:Int)≤24:=by omega
   rw[UD (by omega) h2 fun j hj=>hall j hj hj]
   refine Ab (A4 @s0 @s3 @h1' @h2') ?_;exact Ad
  ·have h2':¬(s.length:Int)≤24:=by omega
   rw[UE (by omega)]
   refine Ab (A4 @s0 @s3 @h1' @h2') ?_;exact Ad
 have hg:s[k]? = some s[k]:=List.getElem?_eq_getElem hlt
 have hbad:(if k=0 then C0 s[k]else Do s[k])=false→Cd s=false:=UF hlt
 have hgood:(if k=0 then C0 s[k]else Do s[k])=true → ∀j (hj:j<s.length),j<k+1→(if j=0 then C0 s[j]else Do s[j])=true:=fun h j hj hjk=>by
  by_cases e:j=k
  ·subst e;exact h
  ·exact hall j hj (by omega)
 generalize s[k]=b at *;have hu:u8 b=.it .u8 (b.toNat:Int):=rfl;have k1:=Oq b.toNat 97 122;have k2:=Oq b.toNat 48 57;have hx:C0 b=(decide (97≤b.toNat)&&decide (b.toNat≤122)):=rfl;have hy:Do b=(C0 b||(decide (48≤b.toNat)&&decide (b.toNat≤57))||decide (b.toNat=95)):=rfl;rw[←hx]at k1;clear hx;generalize (decide (48≤b.toNat)&&decide (b.toNat≤57))=c2 at *;refine Ab (A4 @s0 @s3 @hg @hu) ?_;refine cp k1 ?_;cases hl:C0 b with
 |true=>
  rw[hl]at hy hgood;refine Ab (A4 @s0 @s3 @hg @hu) ?_;exact Aj (s.length-(k+1)) (by omega) ⟨rfl,Aa,k+1,Aa,by omega,hgood (by rw[hy];simp),rfl⟩
 | false=>
  rw[hl]at hy hbad hgood;by_cases h0:k=0
  ·subst h0
   rw[hbad (by simp)]
   refine Ab (A4 @s0 @s3 @hg @hu) ?_;exact Ad
  have h0':¬(k:Int)=0:=by omega
  rw[if_neg h0]at hbad hgood;cases c2 with
  |true=>
   refine Ab (A5 @s0 @s3 @hg @hu @h0') ?_;refine cp k2 ?_;refine Ab (A4 @s0 @s3 @hg @hu) ?_;exact Aj (s.length-(k+1)) (by omega) ⟨rfl,Aa,k+1,Aa,by omega,hgood (by rw[hy];simp),rfl⟩
  | false=>
   by_cases h95:b.toNat=95
   ·have e95:((b.toNat:Int) !=95)=false:=by rw[h95];rfl
    refine Ab (A5 @s0 @s3 @hg @hu @h0') ?_;refine cp k2 ?_;refine Ab (A5 @s0 @s3 @hg @hu @e95) ?_;exact Aj (s.length-(k+1)) (by omega) ⟨rfl,Aa,k+1,Aa,by omega,hgood (by rw[hy,h95];rfl),rfl⟩
   ·have e95:((b.toNat:Int) !=95)=true:=C6 (by omega)
    rw[hbad (by rw[hy,decide_eq_false h95];rfl)]
    refine Ab (A5 @s0 @s3 @hg @hu @h0') ?_;refine cp k2 ?_;refine Ab (A5 @s0 @s3 @hg @hu @e95) ?_;exact Ad
theorem Ou(l:List By)(hs:∀s∈l,s.length≤140737488355328)(hl:l.length≤140737488355328):AC prog 217 [Av l] [] (.bo (CJ l)) []:=by
 refine Ah [130] [] func217 ?_;unfold CJ;refine run ?_;refine AN (fun m e S=>S=[]∧e 0=Av l ∧ ∃k:Nat,e 3=.it .i64 (k:Int)∧k≤l.length∧(∀j (h:j<l.length),j<k→Bw l[j]=true) ∧
  (∀j (h:j+1<l.length),j+1<k→(Op.bytesLess l[j+1] l[j]||l[j+1]==l[j])=false)∧m=l.length-k) l.length ⟨rfl,Aa,0,Aa,by omega,fun j _ h=>absurd h (Nat.not_lt_zero _),fun j _ h=>absurd h (Nat.not_lt_zero _),rfl⟩ ?_
 rintro m e S ⟨rfl,s0,k,s3,hk,hid,hasc,rfl⟩
 by_cases hlt:k<l.length
 rotate_left
 ·obtain rfl:k=l.length:=by omega
  have h1:l.all Bw=true:=List.all_eq_true.2 fun x hx=>by
   obtain⟨j,hj,rfl⟩:=List.getElem_of_mem hx;exact hid j hj hj
  rw[h1,Rn fun j h=>hasc j h h]
  by_cases h64:l.length≤64
  ·have h64':(l.length:Int)≤64:=by omega
   rw[decide_eq_true h64];refine Ab (A3 @s0 @s3 @h64') ?_;exact Ad
  ·have h64':¬(l.length:Int)≤64:=by omega
   rw[decide_eq_false h64];refine Ab (A3 @s0 @s3 @h64') ?_;exact Ad
 have hg:l[k]? = some l[k]:=List.getElem?_eq_getElem hlt
 have hsk:=hs l[k] (List.getElem_mem hlt);have ki:=Kq l[k] hsk;cases hb:Bw l[k]with
 |false=>
  have:l.all Bw=false:=List.all_eq_false.2 ⟨l[k],List.getElem_mem hlt,by simp[hb]⟩
  rw[this,Bool.and_false,Bool.false_and];rw[hb]at ki;refine Ab (A3 @s0 @s3 @hg) ?_;refine cp ki ?_;refine Ab (A3 @s0 @s3 @hg) ?_;exact Ad
 | true=>
  rw[hb]at ki;have hid':∀j (h:j<l.length),j<k+1→Bw l[j]=true:=fun j h hj=>by
   by_cases e:j=k
   ·subst e;exact hb
   ·exact hid j h (by omega)
  cases k with
  |zero=>
   refine Ab (A3 @s0 @s3 @hg) ?_;refine cp ki ?_;refine Ab (A3 @s0 @s3 @hg) ?_;exact Aj (l.length-1) (by omega) ⟨rfl,Aa,1,Aa,by omega,hid',fun j _ h=>by omega,rfl⟩
  | succ k=>
   have hg':l[k]? = some l[k]:=List.getElem?_eq_getElem (by omega)
   have hc:((k+1:Nat):Int)-1=(k:Int):=by omega
   have hpos:(0:Int)<((k+1:Nat):Int):=by omega
   cases hcmp:(Op.bytesLess l[k+1] l[k]||l[k+1]==l[k])with
   | true=>
    have hcm:Op.bytesLess l[k] l[k+1]=false:=by
     have :=Qk l[k] l[k+1];rw[hcmp]at this;simpa using this
    rw[Ro (j:=k) hlt hcmp,Bool.and_false];refine Ab (A3 @s0 @s3 @hg) ?_;refine cp ki ?_;refine Ab (A7 @s0 @s3 @hg @hg' @hc @hcm @hpos) ?_;exact Ad
   | false=>
    have hcm:Op.bytesLess l[k] l[k+1]=true:=by
     have :=Qk l[k] l[k+1];rw[hcmp]at this;simpa using this
    refine Ab (A3 @s0 @s3 @hg) ?_;refine cp ki ?_;refine Ab (A7 @s0 @s3 @hg @hg' @hc @hcm @hpos) ?_;exact Aj (l.length-(k+1+1)) (by omega) ⟨rfl,Aa,k+1+1,Aa,by omega,hid',fun j h hj=>by
     by_cases e:j=k
     ·subst e;exact hcmp
     ·exact hasc j h (by omega),rfl⟩
end Pe
end
end Go.Proofs.YtipfggegddlgdaaGreatDoor
