import Derived.Test.YtchpmmjmimaigaaGreatDoorKh22
set_option linter.unusedSectionVars false
set_option linter.unusedVariables false
set_option linter.unusedSimpArgs false
namespace Go.Proofs.YtchpmmjmimaigaaGreatDoor
section
namespace Tp
open Tryz
open Go Co Sg Ac It
set_option maxRecDepth 100000
def nilC(id:By):Chn:=⟨id,[],[],[],0,false⟩
def AF(id:By)(L:List Ac.Act):Chn:=L.foldl Bi (nilC id)
theorem Pp(id:By)(L:List Ac.Act)(a:Ac.Act):AF id (L++[a])=Bi (AF id L) a:=by
 unfold AF;rw[List.foldl_append];rfl
theorem Ns:∀(L:List Ac.Act) (c:Chn),(L.foldl Bi c).acts=c.acts++L∧(L.foldl Bi c).id=c.id∧(L.foldl Bi c).gen=c.gen∧(L.foldl Bi c).fork=c.fork
 |[],c=>⟨by simp,rfl,rfl,rfl⟩
 |a::L,c=>by
  obtain⟨h1,h2,h3,h4⟩:=Ns L (Bi c a);exact⟨by rw[List.foldl_cons,h1];show c.acts++[a]++L=_;simp,h2,h3,h4⟩
theorem ED(id:By)(L:List Ac.Act):(AF id L).acts=L:=(Ns L (nilC id)).1
theorem J8(id:By)(L:List Ac.Act):(AF id L).id=id:=(Ns L (nilC id)).2.1
theorem Ma(id:By)(L:List Ac.Act):(AF id L).gen=0:=(Ns L (nilC id)).2.2.1
theorem Pq(id:By)(L:List Ac.Act):(AF id L).fork=false:=(Ns L (nilC id)).2.2.2
theorem L9(id:By)(L:List Ac.Act)(a:Ac.Act):(AF id (L++[a])).prev=dg a:=by rw[Pp];rfl
def GK(id:By)(L:List Ac.Act)(a:Ac.Act):Prop:=
 if L=[]then Cl id a=true else Bp (AF id L) a=true∧B0 (Cy (AF id L)).pub a=true
def CF(id:By)(L:List Ac.Act):Prop:=∀j a,L[j]? = some a→GK id (L.take j) a
theorem OY(id:By):CF id []:=fun j a h=>by simp at h
theorem Ws{id:By}{L:List Ac.Act}{a:Ac.Act}(h:CF id L)(ha:GK id L a):CF id (L++[a]):=fun j x hx=>by
 rw[List.getElem?_append]at hx
 split at hx
 ·rename_i hj
  have :=h j x hx;rwa[List.take_append_of_le_length (by omega)]
 ·rename_i hj
  have:j-L.length=0:=by
   cases e:j-L.length with
   |zero=>rfl
   |succ n=>rw[e]at hx;simp at hx
  rw[this]at hx;cases hx
  have:j=L.length:=by omega
  subst this;rw[List.take_left];exact ha
theorem Sf{id:By}{a:Ac.Act}(h:Cl id a=true):a.author=id∧a.kind=0∧a.seq=0∧a.prev=[]∧Ds a.n=id∧B0 a.n a=true:=by
 unfold Cl at h;simp only[Bool.and_eq_true,Bool.not_eq_true',Bool.or_eq_false_iff,Bool.not_eq_false',beq_iff_eq]at h;obtain⟨⟨⟨⟨⟨h1,h2⟩,h3⟩,h4⟩,h5⟩,h6⟩:=h;exact⟨h1,h2,h3,h4,h5,h6⟩
theorem Gp{c:Chn}{a:Ac.Act}(h:Bp c a=true):Ac.right a=true∧a.author=c.id∧a.seq=c.acts.length∧a.prev=c.prev∧((a.kind=0)↔(c.acts.length=0))∧FO c a=true:=by
 unfold Bp at h;simp only[Bool.and_eq_true,decide_eq_true_eq]at h;obtain⟨⟨⟨⟨⟨h1,h2⟩,h3⟩,h4⟩,h5⟩,h6⟩:=h;exact⟨h1,h2,h3,h4,h5,h6⟩
theorem Zcp{p:Int}{a:Ac.Act}(h:B0 p a=true):Ac.right a=true:=by
 unfold B0 at h;rw[Bool.and_eq_true]at h;exact h.1
theorem EY{id:By}{L:List Ac.Act}(h:CF id L){j:Nat}{a:Ac.Act}(ha:L[j]? = some a):a.seq=j∧a.author=id∧Ac.right a=true∧(a.kind=0↔j=0):=by
 have hs:=h j a ha;have hl:=(List.getElem?_eq_some_iff.1 ha).1
 unfold GK at hs;split at hs
 ·rename_i h0
  have hj:j=0:=by
   have :=congrArg List.length h0;rw[List.length_take,List.length_nil]at this;omega
  obtain⟨h1,h2,h3,h4,h5,h6⟩:=Sf hs;subst hj;exact⟨h3,h1,Zcp h6,by simp[h2]⟩
 ·rename_i h0
  obtain⟨h1,h2,h3,h4,h5,h6⟩:=Gp hs.1;rw[ED,List.length_take]at h3 h5;rw[J8]at h2
  have:min j L.length=j:=by omega
  rw[this]at h3 h5;exact⟨h3,h2,h1,h5⟩
theorem OW{id:By}{L:List Ac.Act}(h:CF id L){x y:Ac.Act}(hx:x∈L)(hy:y∈L)(e:x.seq=y.seq):x=y:=by
 obtain⟨i,hi⟩:=List.mem_iff_getElem?.1 hx;obtain⟨j,hj⟩:=List.mem_iff_getElem?.1 hy;have h1:=(EY h hi).1;have h2:=(EY h hj).1
 have:i=j:=by omega
 subst this;rw[hi]at hj;cases hj
 rfl
theorem OX{id:By}{L:List Ac.Act}(h:CF id L):L.Nodup:=by
 refine List.pairwise_iff_getElem.2 fun i j hi hj hij e=>?_
 have h1:=(EY h (List.getElem?_eq_getElem hi)).1
 have h2:=(EY h (List.getElem?_eq_getElem hj)).1
 rw[e]at h1;omega
theorem Md{α:Type _}{p:α→Bool}{a:α}:∀{l:List α},l.Nodup→a∈l→p a=true→(∀x∈l,p x=true→x=a)→l.filter p=[a]
 |[],_,h,_,_=>by simp at h
 | x::l,hn,hm,hp,hu=>by
  rw[List.nodup_cons]at hn;rw[List.filter_cons];by_cases hx:p x=true
  ·obtain rfl:=hu x (by simp) hx
   rw[if_pos hx];congr 1
   rw[List.filter_eq_nil_iff];intro y hy hpy;have :=hu y (List.mem_cons_of_mem _ hy) hpy;subst this;exact hn.1 hy
  ·rw[if_neg hx]
   refine Md hn.2 ?_ hp fun y hy=>hu y (List.mem_cons_of_mem _ hy)
   rcases List.mem_cons.1 hm with rfl|h
   ·exact absurd hp hx
   ·exact h
theorem Zfh(out:List Ac.Act)(a:Ac.Act):(EK out a).Perm (a::out):=by
 unfold EK;refine List.perm_middle.trans ?_
 rw[List.take_append_drop]
theorem UX:∀(l out:List Ac.Act),(Eo out l).Perm (out++l)
 |[],out=>by rw[Eo,List.append_nil]
 |a::l,out=>by
  rw[Eo];refine(UX l _).trans (((Zfh out a).append_right l).trans ?_)
  exact List.perm_middle.symm
theorem Zku(k:List Ac.Act)(id:By):(BY k id).Perm (k.filter fun a=>a.author==id):=by
 have :=(UX k []).filter fun a=>a.author==id
 rwa[List.nil_append]at this
theorem XU{id:By}{L A:List Ac.Act}(h:CF id L)(hp:A.Perm L):∀(n j:Nat),0<j→j≤L.length→L.length<n+j→EQ n A (AF id (L.take j))=AF id L
 |0,j,_,h1,h2=>by omega
 | n+1,j,h0,h1,h2=>by
  have hnd:A.Nodup:=hp.nodup_iff.2 (OX h);have hne:L.take j≠[]:=fun e=>by
   have :=congrArg List.length e;rw[List.length_take,List.length_nil]at this;omega
  have htl:(L.take j).length=j:=by rw[List.length_take];omega
  unfold EQ;by_cases hj:j<L.length
  ·have hg:L[j]? = some L[j]:=List.getElem?_eq_getElem hj
   have hs:=h j _ hg;unfold GK at hs;rw[if_neg hne]at hs;have hc:BD A (AF id (L.take j))=[L[j]]:=by
    refine Md hnd (hp.mem_iff.2 (List.getElem_mem hj)) (by rw[Bool.and_eq_true];exact hs) fun x hx hpx=>?_
    rw[Bool.and_eq_true]at hpx;have h3:=(Gp hpx.1).2.2.1;rw[ED,htl]at h3;exact OW h (hp.mem_iff.1 hx) (List.getElem_mem hj) (by rw[h3,(EY h hg).1])
   rw[hc];simp only
   rw[←Pp,←List.take_succ_eq_append_getElem hj];exact XU h hp n (j+1) (by omega) (by omega) (by omega)
  ·have:j=L.length:=by omega
   subst this;rw[List.take_length];have hc:BD A (AF id L)=[]:=by
    rw[BD,List.filter_eq_nil_iff];intro x hx hpx;rw[Bool.and_eq_true]at hpx;have h3:=(Gp hpx.1).2.2.1;rw[ED]at h3;obtain⟨i,hi⟩:=List.mem_iff_getElem?.1 (hp.mem_iff.1 hx);have h4:=(EY h hi).1;have :=(List.getElem?_eq_some_iff.1 hi).1
    omega
   rw[hc];simp only
   have :=Pq id L;generalize AF id L=c at *;cases c
   simp only at this
   rw[this]
structure Inv(k out:List Ac.Act):Prop where
 perm:k.Perm out
 nodup:(out.map dg).Nodup
 ok:∀id,CF id (out.filter fun a=>a.author==id)
abbrev Bz(out:List Ac.Act)(id:By):List Ac.Act:=out.filter fun a=>a.author==id
theorem Inv.chain{k out:List Ac.Act}(h:Inv k out)(id:By):Fq k id=AF id (Bz out id):=by
 have hp:(BY k id).Perm (Bz out id):=(Zku k id).trans (h.perm.filter _)
 have hok:CF id (Bz out id):=h.ok id
 have hll:(Bz out id).length≤k.length:=by
  rw[h.perm.length_eq];exact List.length_filter_le _ _
 unfold Fq;generalize Bz out id=L at *;generalize BY k id=A at *;have hnd:A.Nodup:=hp.nodup_iff.2 (OX hok);cases hL:L with
 |nil=>
  subst hL;have hA:A=[]:=hp.eq_nil;subst hA;rfl
 | cons a0 L'=>
  have h0:L[0]? = some a0:=by rw[hL];rfl
  have hs:=hok 0 a0 h0;rw[List.take_zero]at hs;unfold GK at hs;rw[if_pos rfl]at hs;have hb:CY A id=[a0]:=by
   refine Md hnd (hp.mem_iff.2 (by rw[hL];simp)) hs fun x hx hpx=>?_
   refine OW hok (hp.mem_iff.1 hx) (by rw[hL];simp) ?_
   rw[(Sf hpx).2.2.1,(EY hok h0).1];rfl
  rw[hb];simp only
  have h1:Bi ⟨id,[],[],[],0,false⟩ a0=AF id (L.take 1):=by rw[hL];rfl
  rw[h1,XU hok hp (k.length+1) 1 (by omega) (by rw[hL];simp) (by omega),hL]
theorem ZmK{a:Ac.Act}(h:Ac.right a=true):dg a≠[]:=by
 have hb:=It.bytes_ne (Sl.act_signed [] h).1;unfold dg It.digest;rw[if_neg hb];intro e;have :=congrArg List.length e;rw[show(Sm.sha (It.bytes (An a))).length=32 from rfl]at this
 cases this
structure Acc(k:List Ac.Act)(a:Ac.Act):Prop where
 right:Ac.right a=true
 new:ZhB k (dg a)=false
 step:(a.kind=0∧(Fq k a.author).acts=[]∧Ds a.n=a.author∧B0 a.n a=true) ∨
  (a.kind≠0∧(Fq k a.author).acts≠[]∧Bp (Fq k a.author) a=true∧B0 (Cy (Fq k a.author)).pub a=true)
theorem LS{α β:Type _}{f:α→β}:∀{l:List α},(l.map f).Nodup → ∀{x y:α},x∈l→y∈l→f x=f y→x=y
 |[],_,_,_,hx,_,_=>by simp at hx
 | a::l,hn,x,y,hx,hy,e=>by
  rw[List.map_cons,List.nodup_cons]at hn;rcases List.mem_cons.1 hx with rfl|hx
  ·rcases List.mem_cons.1 hy with rfl|hy
   ·rfl
   ·exact absurd (List.mem_map.2 ⟨y,hy,e.symm⟩) hn.1
  ·rcases List.mem_cons.1 hy with e'|hy
   ·rw[e']at e
    exact absurd (List.mem_map.2 ⟨x,hx,e⟩) hn.1
   ·exact LS hn.2 hx hy e
end Tp
end
section
namespace Tp
open Tryz
open Go Co Sg Ac It
set_option maxRecDepth 100000
def FH(acts:List Ac.Act):Option Ac.Act:=acts.reverse.find? fun a=>a.kind==19
def FG(c:Chn)(w:Option It.Claim):Option It.Claim:=
 match w with
 |none=>none
 | some cl=>if cl.base=(c.acts.length:Int)∧cl.prev=c.prev∧(match FH c.acts with
   |some a=>It.claimed a.m cl
   |none=>false)=true then some cl else none
def EJ(c:Chn)(cl:It.Claim):Chn:=
 { c with keys:=c.keys++[⟨(c.acts.length:Int),cl.pub,cl.home⟩],gen:=c.gen+1,prev:=It.digest (Ax cl) }
def G6(won:Int→Option It.Claim)(A:List Ac.Act):Nat→Chn→Chn→Prop
 |0,_,_=>False
 | n+1,c,r=>match FG c (won c.gen)with
  |some cl=>G6 won A n (EJ c cl) r
  |none=>match BD A c with
   |[a]=>G6 won A n (Bi c a) r
   |[]=>r={ c with fork:=false }
   |_=>False
theorem QW{id:By}{L A:List Ac.Act}(h:CF id L)(hp:A.Perm L):∀(n j:Nat),0<j→j≤L.length→L.length<n+j→G6 (fun _=>none) A n (AF id (L.take j)) (AF id L)
 |0,j,_,h1,h2=>by omega
 | n+1,j,h0,h1,h2=>by
  have hnd:A.Nodup:=hp.nodup_iff.2 (OX h);have hne:L.take j≠[]:=fun e=>by
   have :=congrArg List.length e;rw[List.length_take,List.length_nil]at this;omega
  have htl:(L.take j).length=j:=by rw[List.length_take];omega
  unfold G6;simp only[FG];by_cases hj:j<L.length
  ·have hg:L[j]? = some L[j]:=List.getElem?_eq_getElem hj
   have hs:=h j _ hg;unfold GK at hs;rw[if_neg hne]at hs;have hc:BD A (AF id (L.take j))=[L[j]]:=by
    refine Md hnd (hp.mem_iff.2 (List.getElem_mem hj)) (by rw[Bool.and_eq_true];exact hs) fun x hx hpx=>?_
    rw[Bool.and_eq_true]at hpx;have h3:=(Gp hpx.1).2.2.1;rw[ED,htl]at h3;exact OW h (hp.mem_iff.1 hx) (List.getElem_mem hj) (by rw[h3,(EY h hg).1])
   rw[hc];simp only
   rw[←Pp,←List.take_succ_eq_append_getElem hj];exact QW h hp n (j+1) (by omega) (by omega) (by omega)
  ·have:j=L.length:=by omega
   subst this;rw[List.take_length];have hc:BD A (AF id L)=[]:=by
    rw[BD,List.filter_eq_nil_iff];intro x hx hpx;rw[Bool.and_eq_true]at hpx;have h3:=(Gp hpx.1).2.2.1;rw[ED]at h3;obtain⟨i,hi⟩:=List.mem_iff_getElem?.1 (hp.mem_iff.1 hx);have h4:=(EY h hi).1;have :=(List.getElem?_eq_some_iff.1 hi).1
    omega
   rw[hc];simp only
   have :=Pq id L;generalize AF id L=c at *;cases c
   simp only at this
   rw[this]
end Tp
end
section
namespace Ho
open Tryz
open Go Co Sg
set_option maxRecDepth 100000
def BK(a b:Int):Int:=(a % 2305843009213693951+b % 2305843009213693951) % 2305843009213693951
def AZ(a b:Int):Int:=(a % 2305843009213693951-b % 2305843009213693951) % 2305843009213693951
def AK(a b:Int):Int:=((Ib a b:Nat):Int)
def Hd(a:Int):Int:=((Eh a 2305843009213693949:Nat):Int)
structure Share where
 x:Int
 y:Int
 deriving DecidableEq
def Jj(seed:By):Int:=BK ((Sm.num (Sm.sha (text seed++Ah 1)):Nat):Int) 0
def QQ(secret c x:Int):Share:=⟨x,BK (AK (BK (AK 0 x) c) x) secret⟩
def MH(secret:Int)(seed:By):Share×Share:=(QQ secret (Jj seed) 1,QQ secret (Jj seed) 2)
def BA(s:Share):By:=Ah s.x++Ah s.y
def HU(f:Share)(x:Int):Int:=BK (AK 0 (AZ x f.x)) f.y
def Qo(f g:Share)(x:Int):Int:=BK (AK (BK (AK 0 (AZ x g.x)) g.y) (AZ x f.x)) f.y
def Dv(a:Share):Share:=⟨a.x,AK (AZ a.y 0) (Hd 1)⟩
def GY(a b:Share):Share:=⟨b.x,AK (AZ b.y (HU (Dv a) b.x)) (Hd (AK 1 (AZ b.x a.x)))⟩
def Pf(a b:Share):Int:=Qo (Dv a) (GY a b) 0
end Ho
end
section
namespace Ho
open Tryz
open Go Co Sg Ac It Tp
set_option maxRecDepth 100000
def MZ(secret:Int)(w:Wrap):Bool:=
 decide (1≤secret)&&decide (secret≤2305843009213693949)&&decide (w.to=((Eh 37 secret:Nat):Int))&&decide (1≤w.eph)&&decide (w.eph≤2305843009213693950)
def Ig(secret:Int)(w:Wrap):By:=KH w.to w.eph ((Eh w.eph secret:Nat):Int)
def JU(secret:Int)(w:Wrap):By:=CU (Ig secret w) w.box.nonce w.box.data
abbrev Og:By:=[114,101,103,97,105,110]
def OF(k:Key)(c:Chn):By:=text Og++Ah k.secret++Ah (c.acts.length:Int)++text c.prev
def I4(s:By):Share:=⟨((⟨s,false⟩:R).num.1:Int),((⟨s,false⟩:R).num.2.num.1:Int)⟩
def OT(s:By):Bool:=
 (⟨s,false⟩:R).num.2.num.2.done&&decide (1≤(I4 s).x)&&decide ((I4 s).x≤2305843009213693950)&&decide (0≤(I4 s).y)&&decide ((I4 s).y≤2305843009213693950)&&BA (I4 s)==s
def E8(id:By)(base:Int)(prev:By)(home pub time:Int):It.Claim:=⟨id,base,prev,0,home,pub,time,A0⟩
end Ho
end
section
namespace Pe
open Tryz
open Go Go.RowKit Co Sg Ac It Sl Tp Ho
set_option maxRecDepth 100000
set_option maxHeartbeats 4000000
theorem WX(key nonce s:By){k:Nat}(hk:k<s.length)(hs:s.length≤32)(x:UInt8)(hx:(Jm key nonce)[k]? = some x):(CU key nonce s).take (k+1)=(CU key nonce s).take k++[s.getD k 0^^^x]:=by
 rw[Zgn key nonce s k hk];congr 2
 unfold QB;rw[show k / 32=0 by omega,show k % 32=k by omega]
 change s.getD k 0^^^(Jm key nonce).getD k 0=_;rw[List.getD_eq_getElem?_getD (l:=Jm key nonce),hx]
 rfl
theorem Zc0(key nonce:By):AC prog 306 [.st key,.st nonce] [] (.fn (.func 347) [] [.ptr 0 0,.ptr 1 0]) [.cells [.st key],.cells [.st nonce]]:=by
 refine Ai [] [] func306 ?_;refine run ?_;exact BI rfl
theorem ZcZ(key nonce:By)(T:Ae):AC prog 306 [.st key,.st nonce] T (.fn (.func 347) [] [.ptr T.length 0,.ptr (T.length+1) 0]) (T++[.cells [.st key],.cells [.st nonce]]):=by
 have h:=(Zc0 key nonce).frame (T:=T) [] ⟨List.nodup_nil,rfl,fun i o hi=>by simp at hi⟩ rfl rfl (fun i o hi=>by
  match i,hi with
  |0,hi=>cases hi;rfl
  |1,hi=>cases hi;rfl)
 have e:ext [] T.length=fun i=>T.length+i:=by funext i;simp[ext]
 rw[e]at h;simpa[AV.ren,AV.r2,AV.r1,AV.r0,SObj.ren,after,Es,Mode.ren] using h
theorem W0(key nonce s:By)(hk:key.length≤5000)(hn:nonce.length≤5000)(hs:s.length≤32)(h0:0<s.length):AC prog 224 [.st key,.st nonce,.st s] [] (.st (CU key nonce s)) []:=by
 have hne:(s==[])=false:=by
  cases s with
  |nil=>simp at h0
  |cons a l=>rfl
 have hne':¬s=[]:=fun e=>by rw[e]at h0;exact absurd h0 (by decide)
 refine AC.hw 34 func224 rfl (by decide) (Nat.le_of_ble_eq_true rfl) rfl ?_
 refine HW.seq (HW.aw (P:=prog) [] [] (by decide) (by kernel_rfl) ?_)
 refine Al ?_
 refine run ?_;refine HW.seq (HW.aw (P:=prog) [] [] (by decide) (by kernel_rfl) ?_)
 refine Al ?_
 refine Aa (an @hne @hne') ?_;refine HW.seq (HW.aw (P:=prog) [] [] (by decide) (by kernel_rfl) ?_)
 refine Al ?_
 refine run ?_;refine HW.seq (HW.seq (HW.aw (P:=prog) [] [] (by decide) (by kernel_rfl) ?_))
 refine Al ?_
 refine run ?_;refine AT (ZcZ key nonce _) ?_;refine run ?_;refine HW.weak (Aq.keep 0 (((((JA.nil _).cons 5 (.ptr 0 0) Ab).cons 7 (.ptr 2 0) Ab).cons 16 (.fn (.func 347) [] [.ptr 3 0,.ptr 4 0]) Ab))) ?_
 have hEok:(Bb 34 (Aw (Aw (Aw (fun _=>.junk) 5 (.ptr 0 0)) 7 (.ptr 2 0)) 16 (.fn (.func 347) [] [.ptr 3 0,.ptr 4 0]))).all (AV.ok 6)=true:=by rfl
 have s5:(Aw (Aw (Aw (fun _=>.junk) 5 (.ptr 0 0)) 7 (.ptr 2 0)) 16 (.fn (.func 347) [] [.ptr 3 0,.ptr 4 0])) 5=.ptr 0 0:=rfl
 have s7:(Aw (Aw (Aw (fun _=>.junk) 5 (.ptr 0 0)) 7 (.ptr 2 0)) 16 (.fn (.func 347) [] [.ptr 3 0,.ptr 4 0])) 7=.ptr 2 0:=rfl
 have s16:(Aw (Aw (Aw (fun _=>.junk) 5 (.ptr 0 0)) 7 (.ptr 2 0)) 16 (.fn (.func 347) [] [.ptr 3 0,.ptr 4 0])) 16=.fn (.func 347) [] [.ptr 3 0,.ptr 4 0]:=rfl
 generalize (Aw (Aw (Aw (fun _=>.junk) 5 (.ptr 0 0)) 7 (.ptr 2 0)) 16 (.fn (.func 347) [] [.ptr 3 0,.ptr 4 0]))=E at *
 have hml:=RU key nonce s;have hx8:∀a b:UInt8,Go.bits .xor .u8 (a.toNat:Int) (b.toNat:Int)=((a^^^b).toNat:Int):=fun a b=>by rw[u8_xor_nat _ _ a.toNat_lt b.toNat_lt,←UInt8.toNat_xor]
 have hu8:∀b:UInt8,u8 b=.it .u8 (b.toNat:Int):=fun _=>rfl
 refine HW.block (HW.rangeX 0 (by rfl) (Zle (show ev E (.tmp 16)=_ from s16) (.tup []) [.cells [.st s],.buf s.length 5 1,.cells [.sl (.own 1) ((CU key nonce s).map u8)],.cells [.st key],.cells [.st nonce]] [] rfl ?_ ?_))
 ·intro b D fn
  have hM:CU key nonce s=(CU key nonce s).take s.length:=(List.take_of_length_le (by omega)).symm
  rw[hM];refine ZcY key nonce hk hn b s.length h0 hs (.cells [.st s]) (fun k=>.buf k 5 1) (fun k=>.cells [.sl (.own 1) (((CU key nonce s).take k).map u8)]) (.loop b D fn (Bb 34 E) _ _ _ .ready) (.loop b D fn (Bb 34 E) _ _ _ .done) ?_ ?_ ?_
  ·intro k
   show(true&&(true&&(true&&(true&&(true&&((Bb 34 E).all (AV.ok 6)&&true))))))=true
   rw[hEok];rfl
  ·intro k x hk1 hx
   have hmt:=WX key nonce s (k:=k) (by omega) hs x hx
   have hal:((CU key nonce s).take k).length=k:=by rw[List.length_take];omega
   rw[hmt];generalize (CU key nonce s).take k=A at *;have hg:s[k]? = some (s.getD k 0):=by rw[List.getD_eq_getElem?_getD,List.getElem?_eq_getElem (by omega)];rfl
   generalize s.getD k 0=c at *;have h0k:(0:Int)≤(k:Int):=by omega
   have hks:(k:Int)<(s.length:Int):=by omega
   have hkn:¬((k:Int)+1=(s.length:Int)):=by omega
   have hkn':(((k+1:Nat):Int)==(s.length:Int))=false:=beq_eq_false_iff_ne.2 (by omega)
   refine CO.enterB (es:=Bb 34 E) [] [] 5 rfl rfl (by intro p hp;simp at hp;subst hp;simp[Bb]) rfl (by kernel_rfl) (by kernel_rfl) rfl ?_
   have a5:BH (Bb 34 E) 5=.ptr 0 0:=(Mn E (by omega)).trans s5
   have a7:BH (Bb 34 E) 7=.ptr 2 0:=(Mn E (by omega)).trans s7
   simp only[Cm,Cu,Dh,List.map_cons,List.map_nil,List.map_toArray,List.getElem?_toArray,List.getElem?_cons_zero,List.getElem?_cons_succ,Option.bind_some,Option.bind_none,List.append_eq,List.cons_append,List.nil_append,Rl,OQ]
   refine Aa (an @a5 @a7) ?_;refine⟨rfl,?_⟩
   refine Aa (A9 @a5 @a7 @hal @hg @h0k @hks @hu8 @hx8 @hkn) ?_;rw[List.map_append];refine⟨_,_,List.range 6,Aq.refl _ _ _,rfl,UN 6 rfl rfl ?_,rfl⟩
   show(true&&(true&&(true&&(true&&(true&&((Bb 34 E).all (AV.ok 6)&&true))))))=true
   rw[hEok];rfl
  ·intro k x hk1 hx
   have hmt:=WX key nonce s (k:=k) (by omega) hs x hx
   have hal:((CU key nonce s).take k).length=k:=by rw[List.length_take];omega
   rw[hmt];generalize (CU key nonce s).take k=A at *;have hg:s[k]? = some (s.getD k 0):=by rw[List.getD_eq_getElem?_getD,List.getElem?_eq_getElem (by omega)];rfl
   generalize s.getD k 0=c at *;have h0k:(0:Int)≤(k:Int):=by omega
   have hks:(k:Int)<(s.length:Int):=by omega
   have hkn:(((k+1:Nat):Int)==(s.length:Int))=true:=beq_iff_eq.2 (by omega)
   have hkn':(k:Int)+1=(s.length:Int):=by omega
   refine CO.enterBX (es:=Bb 34 E) [] [] 5 rfl rfl (by intro p hp;simp at hp;subst hp;simp[Bb]) rfl (by kernel_rfl) (by kernel_rfl) rfl ?_
   have a5:BH (Bb 34 E) 5=.ptr 0 0:=(Mn E (by omega)).trans s5
   have a7:BH (Bb 34 E) 7=.ptr 2 0:=(Mn E (by omega)).trans s7
   simp only[Cm,Cu,Dh,List.map_cons,List.map_nil,List.map_toArray,List.getElem?_toArray,List.getElem?_cons_zero,List.getElem?_cons_succ,Option.bind_some,Option.bind_none,List.append_eq,List.cons_append,List.nil_append,Rl,OQ]
   refine Aa (an @a5 @a7) ?_;refine⟨rfl,?_⟩
   refine Aa (A9 @a5 @a7 @hal @hg @h0k @hks @hu8 @hx8 @hkn') ?_;rw[List.map_append];refine⟨rfl,_,_,List.range 6,Aq.refl _ _ _,rfl,UN 6 rfl rfl ?_,rfl⟩
   show(true&&(true&&(true&&(true&&(true&&((Bb 34 E).all (AV.ok 6)&&true))))))=true
   rw[hEok];rfl
 ·have hbo:bytesOf ((CU key nonce s).map u8)=some (CU key nonce s):=Mi _
  refine HW.aw (P:=prog) [] [] (by decide) (by kernel_rfl) ?_
  refine Al ?_
  refine Aa (an @s7 @hbo) ?_;exact Ad
theorem Zda(key nonce s:By)(hk:key.length≤5000)(hn:nonce.length≤5000)(hs:s.length≤32)(h0:0<s.length):AC prog 138 [.st key,.st nonce,.st s] [] (Ko (ML key nonce s)) []:=by
 have k1:=W0 key nonce s hk hn hs h0;have k2:=UU key nonce (CU key nonce s) hk hn (by rw[RU];omega)
 unfold ML;generalize CU key nonce s=d at *;refine Ai [224,225] [] func138 ?_;refine run ?_;refine cp k1 ?_;refine run ?_;refine cp k2 ?_;refine run ?_;exact Ad
theorem Zdm(key:By)(b:Box)(hk:key.length≤5000)(hn:b.nonce.length≤5000)(hs:b.data.length≤32)(h0:0<b.data.length)(ht:IS key b.nonce b.data=b.tag):AC prog 156 [.st key,Ko b] [] (.tup [.st (CU key b.nonce b.data),.bo true]) []:=by
 have k1:=W0 key b.nonce b.data hk hn hs h0;have k2:=UU key b.nonce b.data hk hn (by omega)
 rw[ht]at k2;have hb:(b.tag==b.tag)=true:=by simp
 refine Ai [224,225] [] func156 ?_;refine run ?_;refine cp k2 ?_;refine Aa @hb ?_;refine cp k1 ?_;refine run ?_;exact Ad
theorem UW(n:Int)(h1:1≤n)(h2:n≤2305843009213693950):AC prog 134 [.it .i64 n] [] (.bo true) []:=by
 have h1':n≥1:=h1;refine Ai [] [] func134 ?_;refine Aa (an @h1' @h2) ?_;exact Ad
theorem Zc9(n:Int)(h1:1≤n)(h2:n≤2305843009213693949):AC prog 155 [.it .i64 n] [] (.bo true) []:=by
 have h1':n≥1:=h1;refine Ai [] [] func155 ?_;refine Aa (an @h1' @h2) ?_;exact Ad
theorem UL(a b c:Int)(ha:0≤a∧a<9223372036854775808)(hb:0≤b∧b<9223372036854775808)(hc:0≤c∧c<9223372036854775808):AC prog 137 [.it .i64 a,.it .i64 b,.it .i64 c] [] (.st (KH a b c)) []:=by
 have k1:=BQ a ha.2 (by omega)
 have k2:=BQ b hb.2 (by omega)
 have k3:=BQ c hc.2 (by omega)
 have l1:=Ec a ha.2;have l2:=Ec b hb.2;have l3:=Ec c hc.2;have kh:=MJ [Ut,Ah a,Ah b,Ah c] (by simp) (by simp;omega)
 unfold KH;generalize Ah a=x at *;generalize Ah b=y at *;generalize Ah c=z at *;refine Ai [67,136] [] func137 ?_;refine run ?_;refine cp k1 ?_;refine run ?_;refine cp k2 ?_;refine run ?_;refine cp k3 ?_;refine run ?_;refine cp kh ?_;refine run ?_;exact Ad
theorem UK(p:Int)(seed s:By)(h1:1≤p)(h2:p≤2305843009213693950)(hd:seed.length≤5000)(hs:s.length≤32)(h0:0<s.length):AC prog 71 [.it .i64 p,.st seed,.st s] [] (.tup [Bo (JB p seed s),.bo true]) []:=by
 have k0:=UW p h1 h2;have k1:=BQ p (by omega) (by omega)
 have l1:=Ec p (by omega)
 have kh:=MJ [KN,seed,Ah p] (by simp) (by simp;omega)
 have hl:=L5 [KN,seed,Ah p];have kn:=QE (hL [KN,seed,Ah p]) (by omega)
 have hnm:=Zf7 (hL [KN,seed,Ah p]);unfold JB;simp only
 generalize hL [KN,seed,Ah p]=h at *;generalize Sm.num h=q at *;obtain⟨e,he⟩:∃e:Nat,e=1+q % 2305843009213693949:=⟨_,rfl⟩
 have hw:IntKind.i64.wrap (1+((q:Nat):Int).tmod 2305843009213693949)=(e:Int):=by
  rw[show((q:Nat):Int).tmod 2305843009213693949=((q % 2305843009213693949:Nat):Int)from rfl,wrap64 (by omega) (by omega)]
  omega
 rw[←he];have hb:e<2305843009213693951:=by omega
 have kg:=Im 37 (e:Int) (by omega) (by omega)
 rw[HD 37 37 e rfl (by omega)]at kg
 have kp:=Im p (e:Int) (by omega) (by omega)
 rw[HD p p.toNat e (by omega) (by omega)]at kp
 have b1:=Fi 37 e;have b2:=Fi p.toNat e;have kw:=UL p ((AU 37 e:Nat):Int) ((AU p.toNat e:Nat):Int) (by omega) (by omega) (by omega)
 have hkl:(KH p ((AU 37 e:Nat):Int) ((AU p.toNat e:Nat):Int)).length=32:=L5 _;generalize KH p ((AU 37 e:Nat):Int) ((AU p.toNat e:Nat):Int)=k at *;have kh2:=MJ [Tp.wNonce,k] (by simp) (by simp;omega)
 have hnl:=L5 [Tp.wNonce,k];generalize hL [Tp.wNonce,k]=nn at *;have ks:=Zda k nn s (by omega) (by omega) hs h0
 generalize ML k nn s=bx at *;generalize AU 37 e=u at *;generalize AU p.toNat e=v at *;refine Ai [134,67,136,135,115,137,138] [] func71 ?_;refine run ?_;refine cp k0 ?_;refine run ?_;refine cp k1 ?_;refine run ?_;refine cp kh ?_;refine run ?_;refine cp kn ?_;refine Aa @hw ?_;refine cp kg ?_;refine run ?_;refine cp kp ?_;refine run ?_;refine cp kw ?_;refine run ?_;refine cp kh2 ?_;refine run ?_;refine cp ks ?_;refine run ?_;exact Ad
theorem ZcW(secret:Int)(w:Wrap)(ho:MZ secret w=true)(hn:w.box.nonce.length≤5000)(hs:w.box.data.length≤32)(h0:0<w.box.data.length)(ht:IS (Ig secret w) w.box.nonce w.box.data=w.box.tag):AC prog 82 [.it .i64 secret,Bo w] [] (.tup [.st (JU secret w),.bo true]) []:=by
 unfold MZ at ho;simp only[Bool.and_eq_true,decide_eq_true_eq]at ho;obtain⟨⟨⟨⟨o1,o2⟩,o3⟩,o4⟩,o5⟩:=ho;have k0:=Zc9 secret o1 o2;have kg:=Im 37 secret (by omega) (by omega)
 rw[←o3]at kg;have ke:=UW w.eph o4 o5;have kx:=Im w.eph secret (by omega) (by omega)
 have b1:Eh w.eph secret<2305843009213693951:=Fi _ _;have b2:Eh 37 secret<2305843009213693951:=Fi _ _;have kw:=UL w.to w.eph ((Eh w.eph secret:Nat):Int) (by omega) (by omega) (by omega)
 have hkl:(Ig secret w).length=32:=L5 _;change AC _ _ _ _ (.st (Ig secret w)) _ at kw;have ko:=Zdm (Ig secret w) w.box (by omega) hn hs h0 ht
 change AC _ _ _ _ (.tup [.st (JU secret w),.bo true]) _ at ko;generalize JU secret w=pl at *;generalize Ig secret w=k at *;generalize Eh w.eph secret=u at *;have hq:(w.to==w.to)=true:=by simp
 refine Ai [155,115,134,137,156] [] func82 ?_;refine run ?_;refine cp k0 ?_;refine run ?_;refine cp kg ?_;refine Aa @hq ?_;refine cp ke ?_;refine run ?_;refine cp kx ?_;refine run ?_;refine cp kw ?_;refine run ?_;refine cp ko ?_;refine run ?_;exact Ad
end Pe
end
section
namespace Pe
open Tryz
open Go Go.RowKit Co Sg Ac It Sl Tp Ho
set_option maxRecDepth 100000
set_option maxHeartbeats 4000000
abbrev Zkz:SObj:=.cells [.st [],.it .i64 0,.st [],.it .i64 0,.it .i64 0,.st [],.st [],.it .i64 0,.st [],.sl .full [],.st [],.st [],.st [],.st [],.it .i64 0,.sl .full [],.it .i64 0,.it .i64 0,.it .i64 0,.it .i64 0]
theorem Zes(c:Chn)(a:Ac.Act)(hl:c.acts.length≤1000)(hs:FH c.acts=some a):AC prog 42 [AN c] [] (.tup [Am a,.bo true]) []:=by
 obtain⟨id,acts,keys,prev,gen,fork⟩:=c;simp only at hl hs
 have hza:=D6 acts;have w0:IntKind.i64.wrap ((acts.length:Int)-1)=(acts.length:Int)-1:=wrap64 (by omega) (by omega)
 unfold FH at hs;refine Ai [] [] func42 ?_;refine Aa @w0 ?_;refine Bn (fun m e S=>e 1=.ptr 0 0∧e 2=.ptr 1 0∧S=[.cells [.st id,Dl acts,.sl .ro (keys.map Cr),.st prev,.it .i64 gen,.bo fork],Zkz] ∧ ∃k:Nat,e 4=.it .i64 ((k:Int)-1)∧k≤acts.length∧(acts.take k).reverse.find? (fun a=>a.kind==19)=some a∧m=k) acts.length
  ⟨Ab,Ab,rfl,acts.length,Ab,Nat.le_refl _,by rw[List.take_length];exact hs,rfl⟩ ?_
 rintro m e S ⟨s1,s2,rfl,k,s4,hk,hf,rfl⟩
 rw[GJ s2];match m,hk,hf,s4 with
 |0,hk,hf,s4=>simp at hf
 | k+1,hk,hf,s4=>
  have hlt:k<acts.length:=by omega
  have hg:acts[k]? = some acts[k]:=List.getElem?_eq_getElem hlt
  have hgp:acts.take (k+1)=acts.take k++[acts[k]]:=List.take_succ_eq_append_getElem hlt;have hk1:((k+1:Nat):Int)-1=(k:Int):=by omega
  have hk2:(0:Int)≤(k:Int):=by omega
  have hk3:(k:Int)<(acts.length:Int):=by omega
  have hkw:IntKind.i64.wrap ((k:Int)-1)=(k:Int)-1:=wrap64 (by omega) (by omega)
  rw[hgp,List.reverse_append,List.reverse_singleton,List.singleton_append,List.find?_cons]at hf
  rw[hk1]at s4;generalize acts[k]=x at *;cases hx:x.kind==19 with
  |true=>
   rw[hx]at hf;simp only[Option.some.injEq]at hf;subst hf;have hx':decide (x.kind=19)=true:=by simpa using hx
   refine Aa (A9 @s1 @s2 @s4 @hg @hk2 @hk3 @hza @hx @hx') ?_;exact Ad
  |false=>
   rw[hx]at hf;simp only at hf
   have hx':¬x.kind=19:=by simpa using hx
   refine Aa (F3 @s1 @s2 @s4 @hg @hk2 @hk3 @hza @hx' @hx @hkw) ?_;exact As k (by omega) ⟨Ab,Ab,rfl,k,Ab,by omega,hf,rfl⟩
theorem Zjs(c:Chn)(i:Nat)(hl:c.acts.length≤1000)(hk:c.keys.length≤1000)(hi:i≤1000):AC prog 65 [AN c,.it .i64 (i:Int)] [] (.tup [Cr (J3 c i).1,.bo (J3 c i).2]) []:=by
 obtain⟨id,acts,keys,prev,gen,fork⟩:=c;simp only at hl hk
 have hsz:=J2 keys;have h0:¬(i:Int)<0:=by omega
 unfold J3;simp only
 by_cases h1:acts.length<i
 ·have h1':(i:Int)>(acts.length:Int):=by omega
  rw[if_pos h1];refine Ai [] [] func65 ?_;refine Aa (an @h0 @h1') ?_;exact Ad
 ·have h1':¬(i:Int)>(acts.length:Int):=by omega
  rw[if_neg h1];have w0:IntKind.i64.wrap ((keys.length:Int)-1)=(keys.length:Int)-1:=wrap64 (by omega) (by omega)
  refine Ai [] [] func65 ?_;refine Aa (A3 @h0 @h1' @w0) ?_;refine Bn (fun m e S=>e 1=.it .i64 (i:Int)∧e 2=.ptr 0 0∧e 4=.ptr 1 0∧S=[.cells [.st id,Dl acts,.sl .ro (keys.map Cr),.st prev,.it .i64 gen,.bo fork],.cells [.it .i64 0,.it .i64 0,.it .i64 0]] ∧ ∃j:Nat,e 6=.it .i64 ((j:Int)-1)∧j≤keys.length∧keys.reverse.find? (fun k=>decide (k.frm≤(i:Int)))=(keys.take j).reverse.find? (fun k=>decide (k.frm≤(i:Int)))∧m=j) keys.length ⟨Ab,Ab,Ab,rfl,keys.length,Ab,Nat.le_refl _,by rw[List.take_length],rfl⟩ ?_
  rintro m e S ⟨s1,s2,s4,rfl,j,s6,hj,hf,rfl⟩
  rw[GJ s4];cases m with
  |zero=>
   have hn:¬(((0:Nat):Int)-1)≥0:=by omega
   have hv:keys.reverse.find? (fun k=>decide (k.frm≤(i:Int)))=none:=hf
   rw[hv];refine Aa (A5 @s1 @s2 @s4 @s6 @hn) ?_;exact Ad
  | succ j=>
   have hjl:j<keys.length:=by omega
   have hg:keys[j]? = some keys[j]:=List.getElem?_eq_getElem hjl
   have ej:(((j+1:Nat):Int)-1)=(j:Int):=by omega
   have hp:(j:Int)≥0:=by omega
   rw[ej]at s6;have htk:(keys.take (j+1)).reverse=keys[j]::(keys.take j).reverse:=by rw[List.take_succ_eq_append_getElem hjl,List.reverse_append];rfl
   rw[htk,List.find?_cons]at hf
   have w1:IntKind.i64.wrap ((j:Int)-1)=(j:Int)-1:=wrap64 (by omega) (by omega)
   generalize keys[j]=k at *;by_cases hle:k.frm≤(i:Int)
   ·rw[decide_eq_true hle]at hf
    have hv:keys.reverse.find? (fun k=>decide (k.frm≤(i:Int)))=some k:=hf
    rw[hv];refine Aa (A8 @s1 @s2 @s4 @s6 @hp @hg @hsz @hle) ?_;exact Ad
   ·rw[decide_eq_false hle]at hf
    refine Aa (A9 @s1 @s2 @s4 @s6 @hp @hg @hsz @hle @w1) ?_;exact As j (by omega) ⟨Ab,Ab,Ab,rfl,j,Ab,by omega,hf,rfl⟩
theorem ZiY(c:Chn)(n:Nat)(hl:c.acts.length≤1000)(hn0:1≤n)(hn:c.acts.length≤n)(hn1:n≤1000):AC prog 41 [AN c,.it .i64 (n:Int)] [] (AN c) []:=by
 obtain⟨id,acts,keys,prev,gen,fork⟩:=c;simp only at hl hn
 have h1:¬(n:Int)<1:=by omega
 have h2:(n:Int)≥(acts.length:Int):=by omega
 refine Ai [] [] func41 ?_;refine Aa (an @h1 @h2) ?_;exact Ad
theorem ZiX(c:Chn)(n:Nat)(k:KeyAt)(hl:c.acts.length≤1000)(hn0:1≤n)(hn:n<c.acts.length)(hk:c.keys=[k])(hkf:k.frm≤(n:Int))(hm:∀a∈c.acts,a.kind≠18):
  AC prog 41 [AN c,.it .i64 (n:Int)] [] (AN ⟨c.id,c.acts.take n,[k],(c.acts.getD n act0).prev,0,false⟩) []:=by
 obtain⟨id,acts,keys,prev,gen,fork⟩:=c;simp only at hl hn hk hm
 subst hk;have h1:¬(n:Int)<1:=by omega
 have h2:¬(n:Int)≥(acts.length:Int):=by omega
 have h2':(n:Int)<(acts.length:Int):=by omega
 have h3:(0:Int)≤(n:Int):=by omega
 have hza:=D6 acts;have hg:acts[n]? = some (acts.getD n act0):=by rw[List.getD_eq_getElem?_getD,List.getElem?_eq_getElem hn];rfl
 generalize acts.getD n act0=x at *;have hzt:=D6 (acts.take n);have htl:(acts.take n).length=n:=by rw[List.length_take];omega
 have hmt:∀a∈acts.take n,a.kind≠18:=fun a ha=>hm a (List.mem_of_mem_take ha)
 refine Ai [] [] func41 ?_;refine Aa (A6 @h1 @h2 @h2' @h3 @hza @hg) ?_;refine Dr 1 fun R hR=>?_
 refine Aa @hkf ?_;refine hR _ _ _ ?_
 clear hR;refine run ?_;generalize acts.take n=A at *;refine Bn (fun m e S=>e 4=.ptr 1 0∧e 5=.ptr 2 0∧e 59=.sl .full (A.map Am)∧e 60=.it .i64 (A.length:Int) ∧ ∃(j:Nat) (T:Ae),e 61=.it .i64 (j:Int)∧S=.cells [.st id,Dl acts,.sl .ro [Cr k],.st prev,.it .i64 gen,.bo fork]::.cells [.st [],.sl .full [],.sl .full [],.st [],.it .i64 0,.bo false]::.cells [.st id,.sl .full (A.map Am),.sl (.own 4) [Cr k],.st x.prev,.it .i64 0,.bo false]::.cells [.it .i64 k.frm,.it .i64 k.pub,.it .i64 k.home]::.buf 1 74 3::T∧j≤A.length∧m=A.length-j) A.length
  ⟨Ab,Ab,Ab,Ab,0,[],Ab,rfl,Nat.zero_le _,rfl⟩ ?_
 rintro m e S ⟨s4,s5,s59,s60,j,T,s61,rfl,hj,rfl⟩
 rw[GJ s4];have hT1:∀y:SObj,(T++[y])[T.length]? = some y:=fun y=>by simp
 have hT2:∀y z:SObj,(T++[y]).set T.length z=T++[z]:=fun y z=>by simp
 by_cases hlt:j<A.length
 ·have hgj:A[j]? = some A[j]:=List.getElem?_eq_getElem hlt
  have hlt':(j:Int)<(A.length:Int):=by omega
  have h0j:(0:Int)≤(j:Int):=by omega
  have w1:=Cg (k:=j) (by omega)
  have hk18:=hmt A[j] (List.getElem_mem hlt);have hk18':(A[j].kind==18)=false:=beq_eq_false_iff_ne.2 hk18;generalize A[j]=a at *;refine Aa (an @s4 (an @s5 (an @s59 (AA @s60 @s61 @hlt' @hgj @h0j @hzt @hT1 @hT2 @hk18 @hk18' @w1)))) ?_;exact As (A.length-(j+1)) (by omega) ⟨Ab,Ab,Ab,Ab,j+1,_,Ab,rfl,by omega,rfl⟩
 ·obtain rfl:j=A.length:=by omega
  have hlt':¬(A.length:Int)<(A.length:Int):=by omega
  refine Aa (A6 @s4 @s5 @s59 @s60 @s61 @hlt') ?_;exact AQ
end Pe
end
section
namespace Pe
open Tryz
open Go Go.RowKit Co Sg Ho
set_option maxRecDepth 100000
set_option maxHeartbeats 4000000
theorem RE(a b:Int):0≤BK a b∧BK a b<2305843009213693951:=⟨Int.emod_nonneg _ (by decide),Int.emod_lt_of_pos _ (by decide)⟩
theorem Zfo(a b:Int):0≤AZ a b∧AZ a b<2305843009213693951:=⟨Int.emod_nonneg _ (by decide),Int.emod_lt_of_pos _ (by decide)⟩
theorem OS(a b:Int):0≤AK a b∧AK a b<2305843009213693951:=by
 unfold AK Ib;have :=Nat.mod_lt ((a % 2305843009213693951).toNat*(b % 2305843009213693951).toNat) (show 0<2305843009213693951 by decide)
 omega
theorem Wa(a:Int):0≤Hd a∧Hd a<2305843009213693951:=by
 unfold Hd
 have:Eh a 2305843009213693949<2305843009213693951:=Fi _ _;omega
theorem Jc(a b:Int)(ha:-9223372036854775808≤a∧a≤9223372036854775807)(hb:-9223372036854775808≤b∧b≤9223372036854775807):AC prog 132 [.it .i64 a,.it .i64 b] [] (.it .i64 (BK a b)) []:=by
 refine Ap [191] [] func132 ?_;refine run ?_;refine cp (ZaA a b 2305843009213693951 (by omega) (by omega) ha hb) ?_
 refine run ?_;exact Ad
theorem ZcX(a b m:Int)(hm:0<m)(hm':m<4611686018427387904)(ha:-9223372036854775808≤a∧a≤9223372036854775807)(hb:-9223372036854775808≤b∧b≤9223372036854775807):AC prog 334 [.it .i64 a,.it .i64 b,.it .i64 m] [] (.it .i64 ((a % m-b % m) % m)) []:=by
 refine Ap [189] [] func334 ?_;have a1:=Int.emod_nonneg a (show m≠0 by omega)
 have a2:=Int.emod_lt_of_pos a hm;have b1:=Int.emod_nonneg b (show m≠0 by omega)
 have b2:=Int.emod_lt_of_pos b hm;refine run ?_;refine cp (FL a m hm hm' ha) ?_;refine run ?_;refine cp (FL b m hm hm' hb) ?_;refine run ?_;refine cp (FL (a % m-b % m) m hm hm' (by omega)) ?_
 refine run ?_;exact Ad
theorem L6(a b:Int)(ha:-9223372036854775808≤a∧a≤9223372036854775807)(hb:-9223372036854775808≤b∧b≤9223372036854775807):AC prog 265 [.it .i64 a,.it .i64 b] [] (.it .i64 (AZ a b)) []:=by
 refine Ap [334] [] func265 ?_;refine run ?_;refine cp (ZcX a b 2305843009213693951 (by omega) (by omega) ha hb) ?_
 refine run ?_;exact Ad
theorem XW(a:Int)(ha:-9223372036854775808≤a∧a≤9223372036854775807)(h0:a % 2305843009213693951≠0):AC prog 266 [.it .i64 a] [] (.tup [.it .i64 (Hd a),.bo true]) []:=by
 refine Ap [189,115] [] func266 ?_;refine run ?_;refine cp (FL a 2305843009213693951 (by omega) (by omega) ha) ?_
 refine Aa @h0 ?_;refine cp (Im a 2305843009213693949 ha (by omega)) ?_
 refine run ?_;exact Ad
end Pe
end
section
namespace Pe
open Tryz
open Go Go.RowKit Co Sg Ho
set_option maxRecDepth 100000
set_option maxHeartbeats 4000000
abbrev Bm(s:Share):AV:=.agg [.it .i64 s.x,.it .i64 s.y]
theorem Zf6(s:By):Sm.num s<2305843009213693952:=by
 have :=Sm.nat8_lt s 8;unfold Sm.num;omega
theorem Zfz(secret:Int)(seed:By)(hs:seed.length≤5000):AC prog 131 [.it .i64 secret,.it .i64 2,.st seed] [] (.sl .ro [.it .i64 secret,.it .i64 (Jj seed)]) []:=by
 have kt:=C2 seed (by omega)
 have kn:=BQ 1 (by omega) (by omega)
 have l1:(text seed++Ah 1).length≤70368744177664:=by
  have h1:=EL (n:=seed.length) (by omega)
  have h2:(Ah 1).length=1:=by decide
  unfold text;rw[List.length_append,List.length_append];omega
 have ks:=MK (text seed++Ah 1) l1;have km:=QE (Sm.sha (text seed++Ah 1)) (by show 32≤_;omega)
 have hlt:=Zf6 (Sm.sha (text seed++Ah 1));have ka:=Jc ((Sm.num (Sm.sha (text seed++Ah 1)):Nat):Int) 0 (by omega) (by omega)
 change AC _ _ _ _ (.it .i64 (Jj seed)) _ at ka;generalize Jj seed=c at *;generalize Sm.num (Sm.sha (text seed++Ah 1))=q at *;generalize Sm.sha (text seed++Ah 1)=h at *;generalize text seed=t at *;generalize Ah 1=u at *;have l2:t.length+u.length≤70368744177664:=by rw[List.length_append]at l1;exact l1
 refine Ai [66,67,50,135,132] [] func131 ?_;refine run ?_;refine Dr 1 fun R hR=>?_
 refine run ?_;refine cp kt ?_;refine run ?_;refine cp kn ?_;refine run ?_;refine cp ks ?_;refine run ?_;refine cp km ?_;refine run ?_;refine cp ka ?_;refine run ?_;refine hR _ _ _ ?_
 clear hR;refine run ?_;exact AQ
theorem IY(a b:Int):-9223372036854775808≤AK a b∧AK a b≤9223372036854775807:=by have :=OS a b;omega
theorem RF(a b:Int):-9223372036854775808≤BK a b∧BK a b≤9223372036854775807:=by have :=RE a b;omega
theorem LO(a b:Int):-9223372036854775808≤AZ a b∧AZ a b≤9223372036854775807:=by have :=Zfo a b;omega
theorem Zdd(secret:Int)(seed:By)(hs:seed.length≤5000)(h0:0≤secret)(h1:secret<2305843009213693951):AC prog 69 [.it .i64 secret,.it .i64 2,.it .i64 2,.st seed] [] (.tup [.sl .ro [Bm (MH secret seed).1,Bm (MH secret seed).2],.bo true]) []:=by
 have kp:=Zfz secret seed hs;have hc:=RE ((Sm.num (Sm.sha (text seed++Ah 1)):Nat):Int) 0;change 0≤Jj seed∧Jj seed<2305843009213693951 at hc;unfold MH QQ;generalize Jj seed=c at *;have n0:¬secret<0:=by omega
 have n1:¬secret≥2305843009213693951:=by omega
 have m1:=FR 0 1 (by omega) (by omega)
 have a1:=Jc (AK 0 1) c (IY 0 1) (by omega)
 have m2:=FR (BK (AK 0 1) c) 1 (RF _ _) (by omega)
 have a2:=Jc (AK (BK (AK 0 1) c) 1) secret (IY _ _) (by omega)
 have m3:=FR 0 2 (by omega) (by omega)
 have a3:=Jc (AK 0 2) c (IY 0 2) (by omega)
 have m4:=FR (BK (AK 0 2) c) 2 (RF _ _) (by omega)
 have a4:=Jc (AK (BK (AK 0 2) c) 2) secret (IY _ _) (by omega)
 change AC _ _ _ _ (.it .i64 (AK 0 1)) _ at m1;change AC _ _ _ _ (.it .i64 (AK (BK (AK 0 1) c) 1)) _ at m2;change AC _ _ _ _ (.it .i64 (AK 0 2)) _ at m3;change AC _ _ _ _ (.it .i64 (AK (BK (AK 0 2) c) 2)) _ at m4;simp only
 generalize BK (AK (BK (AK 0 1) c) 1) secret=y1 at *;generalize BK (AK (BK (AK 0 2) c) 2) secret=y2 at *;generalize AK (BK (AK 0 1) c) 1=x4 at *;generalize AK (BK (AK 0 2) c) 2=x8 at *;generalize BK (AK 0 1) c=x2 at *;generalize BK (AK 0 2) c=x6 at *;generalize AK 0 1=x1 at *;generalize AK 0 2=x5 at *;refine Ai [131,133,132] [] func69 ?_;refine Aa (an @n0 @n1) ?_;refine cp kp ?_;refine run ?_;refine Dr 2 fun R hR=>?_
 refine run ?_;refine Dr 2 fun R1 hR1=>?_
 refine run ?_;refine cp m1 ?_;refine run ?_;refine cp a1 ?_;refine run ?_;refine hR1 _ _ _ ?_
 refine run ?_;refine cp m2 ?_;refine run ?_;refine cp a2 ?_;refine run ?_;refine hR1 _ _ _ ?_
 clear hR1;refine run ?_;refine hR _ _ _ ?_
 refine run ?_;refine Dr 2 fun R1 hR1=>?_
 refine run ?_;refine cp m3 ?_;refine run ?_;refine cp a3 ?_;refine run ?_;refine hR1 _ _ _ ?_
 refine run ?_;refine cp m4 ?_;refine run ?_;refine cp a4 ?_;refine run ?_;refine hR1 _ _ _ ?_
 clear hR1;refine run ?_;refine hR _ _ _ ?_
 clear hR;refine run ?_;exact AQ
theorem Zcq(f g:Share)(x:Int)(hf:(0≤f.x∧f.x<2305843009213693951)∧0≤f.y∧f.y<2305843009213693951)(hg:(0≤g.x∧g.x<2305843009213693951)∧0≤g.y∧g.y<2305843009213693951)(hx:0≤x∧x<2305843009213693951):
  AC prog 159 [.sl .ro [Bm f,Bm g],.it .i64 x] [] (.it .i64 (Qo f g x)) []:=by
 unfold Qo;have s1:=L6 x g.x (by omega) (by omega)
 have m1:=FR 0 (AZ x g.x) (by omega) (LO _ _)
 have a1:=Jc (AK 0 (AZ x g.x)) g.y (IY _ _) (by omega)
 have s2:=L6 x f.x (by omega) (by omega)
 have m2:=FR (BK (AK 0 (AZ x g.x)) g.y) (AZ x f.x) (RF _ _) (LO _ _);have a2:=Jc (AK (BK (AK 0 (AZ x g.x)) g.y) (AZ x f.x)) f.y (IY _ _) (by omega)
 change AC _ _ _ _ (.it .i64 (AK 0 (AZ x g.x))) _ at m1;change AC _ _ _ _ (.it .i64 (AK (BK (AK 0 (AZ x g.x)) g.y) (AZ x f.x))) _ at m2;generalize BK (AK (BK (AK 0 (AZ x g.x)) g.y) (AZ x f.x)) f.y=r at *;generalize AK (BK (AK 0 (AZ x g.x)) g.y) (AZ x f.x)=r1 at *;generalize BK (AK 0 (AZ x g.x)) g.y=r2 at *;generalize AK 0 (AZ x g.x)=r3 at *;generalize AZ x g.x=r4 at *;generalize AZ x f.x=r5 at *;have hsz:AH 2 [Bm f,Bm g]=true:=rfl;have h21:((2:Nat):Int)-1=1:=rfl;refine Ai [132,133,265] [] func159 ?_;refine Aa @h21 ?_;refine Dr 2 fun R hR=>?_
 refine Aa (an @hsz @h21) ?_;trace_state
 refine cp s1 ?_;refine run ?_;refine cp m1 ?_;refine run ?_;refine cp a1 ?_;refine run ?_;refine hR _ _ _ ?_
 refine run ?_;refine cp s2 ?_;refine run ?_;refine cp m2 ?_;refine run ?_;refine cp a2 ?_;refine run ?_;refine hR _ _ _ ?_
 clear hR;refine run ?_;exact Ad
end Pe
end
section
namespace Pe
open Tryz
open Go Go.RowKit Co Sg Ho
set_option maxRecDepth 100000
set_option maxHeartbeats 4000000
theorem Zct(a b:Share)(ha:(1≤a.x∧a.x<2305843009213693951)∧0≤a.y∧a.y<2305843009213693951)(hb:(1≤b.x∧b.x<2305843009213693951)∧0≤b.y∧b.y<2305843009213693951)(hne:a.x≠b.x):
  AC prog 158 [.sl .ro [Bm a,Bm b]] [] (.bo true) []:=by
 have hsz:AH 2 [Bm a,Bm b]=true:=rfl;have a1:¬a.x<1:=by omega
 have a2:¬a.x≥2305843009213693951:=by omega
 have a3:¬a.y<0:=by omega
 have a4:¬a.y≥2305843009213693951:=by omega
 have b1:¬b.x<1:=by omega
 have b2:¬b.x≥2305843009213693951:=by omega
 have b3:¬b.y<0:=by omega
 have b4:¬b.y≥2305843009213693951:=by omega
 have h1:(a.x==b.x)=false:=beq_eq_false_iff_ne.2 hne;have h2:(b.x==a.x)=false:=beq_eq_false_iff_ne.2 (Ne.symm hne);have h3:¬b.x=a.x:=Ne.symm hne;refine Ai [] [] func158 ?_;refine run ?_;refine Dr 2 fun R hR=>?_
 refine Aa (A5 @hsz @a1 @a2 @a3 @a4) ?_;trace_state
 refine hR _ _ _ ?_
 refine Aa (A9 @hsz @b1 @b2 @b3 @b4 @h1 @h2 @hne @h3) ?_;trace_state
 refine hR _ _ _ ?_
 clear hR;refine run ?_;exact Ad
end Pe
end
section
namespace Pe
open Tryz
open Go Go.RowKit
variable [Tab]
set_option maxRecDepth 100000
theorem ZiE{P:Program}{o:Oper}{e:Af}{S:Ae}{dT sT el:TypeId}{x y:Operand}{l off n c sz:Nat}{ag:Bool}{md:Mode}{cs es:List AV}(ho:o.op=.call { callee:=.builtin .copy,args:= #[x,y],argTypes:= #[dT,sT] })
  (ht:Bt P dT=some (el,sz,ag))(hxe:ev e x=.ws l off n c)(hye:ev e y=.sl md es)(hne:n=es.length)(hpos:0<n)(hsz:AH sz es=true)(hS:S[l]? = some (.cells cs))(hle:off+(Ak es).length≤cs.length):
  AR P o e S (.it .i64 n) (S.set l (.cells (Bc cs off (Ak es)))):=
 Dj fun ρ w g hw hr=>by
  have hx:=hr x (by rw[ho];simp[Op.operands,Call.operands])
  have hy:=hr y (by rw[ho];simp[Op.operands,Call.operands])
  obtain⟨arr,T,fr,h4,h5,hc,hl,hb,hown,hG⟩:=O0 hw hS;rw[hxe]at hx;rw[hye]at hy;generalize hcx:ρ x=cx at hx;generalize hcy:ρ y=cy at hy;cases hx
  cases hy with
  |sl _ _ _ A c0 sz0 cu hc0 hcm hsz0 hA h1' hr' hm'=>
  obtain⟨bk,ob,rfl,hcells⟩:=hA (by omega)
  obtain⟨hu0,hse⟩:=Ep ht;have hfl:(Ak es).length=n*sz:=by rw[hne];exact Ft (Em hsz)
  have hvl:((List.range (Ak es).length).map cu).length=(Ak es).length:=by simp
  have hload:(loadCells ⟨bk,ob,none⟩ ((List.range (Ak es).length).map cu).length).run P w=.ok ((List.range (Ak es).length).map cu).toArray w:=run_loadCells_list (P:=P) w ⟨bk,ob,none⟩ _ fun j v hj=>by
   rw[List.getElem?_map]at hj
   obtain⟨q,hq,rfl⟩:=Option.map_eq_some_iff.1 hj;have hjl:=(List.getElem?_eq_some_iff.1 hq).1
   rw[List.length_range]at hjl;rw[List.getElem?_range hjl]at hq
   cases hq
   have :=(hcells j hjl).2;rwa[show(⟨bk,ob,none⟩:Addr).add j=⟨bk,ob+j,none⟩ by unfold Addr.add;split<;>simp_all]
  have hu:AI w g (Ak es) ((List.range (Ak es).length).map cu).toArray:=by
   refine⟨by simp,fun v hv=>?_,fun j u v hu hv=>?_⟩
   ·obtain⟨q,hq,rfl⟩:=List.mem_map.1 (show v∈(List.range (Ak es).length).map cu by simpa using hv)
    exact h1' q (List.mem_range.1 hq)
   ·have hjl:=(List.getElem?_eq_some_iff.1 hu).1
    have:v=cu j:=by
     simp only[List.getElem?_toArray,List.getElem?_map,List.getElem?_range hjl,Option.map_some]at hv
     exact(Option.some.inj hv).symm
    rw[this];exact(hr' j u hu).ofNoid
  generalize (List.range (Ak es).length).map cu=vs at *;have hst:=JK (P:=P) (g.pl l) off T fr vs 0 arr w h4 (.inl h5) (by rw[hvl];have :=hc.1;omega) (fun v hv=>hu.2.1 v (by simpa using hv))
  simp only[Nat.add_zero]at hst;have hle':=Le.setRow (w:=w) hG (arr.toList.take off++vs++arr.toList.drop (off+vs.length)).toArray;have hnew:=ZA hc hu (off:=off) hle;have hlS:l<S.length:=(List.getElem?_eq_some_iff.1 hS).1
  refine⟨goInt n,w.setRow (g.pl l) _,g,?_,hw.touch hlS hle' rfl (fun _ _ _=>⟨rfl,rfl,rfl,rfl,rfl⟩) (fun b hb=>.inl hb) (by simp) (fun _ _ _=>rfl) (fun b _ hno=>?_) ?_,?_,⟨hle',rfl,rfl,rfl,by simp,fun b _ hno=>?_,fun _ _ hk hb _=>⟨hk,hb⟩,fun _ _ _=>rfl⟩⟩
  ·unfold execOp
   simp only[ho];show Sem.run P (do let d ←resolve ρ _ o.type;invoke d.target d.args) w=_
   have hmin:Nat.min es.length n=n:=by rw[hne];exact Nat.min_self _
   rw[hvl,hfl]at hload;simp only[resolve,Sem.run_bind,Sem.run_pure,Result.andThen_ok,invoke,builtin,List.map_toArray,List.map_cons,List.map_nil,hcx,hcy];simp only[Builtin.copy_,List.getElem?_toArray,List.getElem?_cons_zero,List.getElem?_cons_succ,Sem.run_bind,run_underlying hu0,Result.andThen_ok,Builtin.lenOf,Sem.run_pure,hmin,run_sizeOf hse,Builtin.firstCells,hload,hst]
  ·exact setRow_other w _ b _ (fun e=>hno (by rw[e];exact hown))
  ·have hnew:=hnew.le hle'
   exact⟨hb,hown,hG,_,T,fr,setRow_heap w (g.pl l) arr _ T fr h4,h5,hnew.1,hnew.2.1,hnew.2.2⟩
  ·exact .it _ _ _
  ·exact setRow_other w _ b _ (fun e=>hno l hl (by rw[e];exact hown))
end Pe
end
section
namespace Pe
open Tryz
open Go Go.RowKit Co Sg Ho
set_option maxRecDepth 100000
set_option maxHeartbeats 4000000
theorem ZdV{α:Type _}{l:List α}{i:Nat}{x:α}(h:l[i]? = some x):l.set i x=l:=by
 obtain⟨hi,rfl⟩:=List.getElem?_eq_some_iff.1 h
 exact List.set_getElem_self hi
section
variable {P:Program} {pf rf:List FuncId} {f:FuncId} {d:Option Nat} {rest:List AO} {e:Af} {K:Af→Ae→Prop}
theorem ZF[Tab]{args gargs:List AV}{T:Ae}{o:SObj}{v:AV}(h:AC P f args [o] v [o])(h':Bs P pf rf rest (put e d v) T K)(hT:T[0]? = some o:=by rfl)
  (ho:o.ok 1=true:=by rfl)(ha:args.all (AV.ok 1)=true:=by rfl)(hv:v.ok 1=true:=by rfl)(hg:gargs.map AV.wk=args:=by rfl)(hra:args.map (AV.ren (Az [0]))=args:=by rfl)(hro:o.ren (Az [0])=o:=by rfl)(hro':∀n,o.ren (ext [0] n)=o:=by intro n;rfl)(hrv:∀n,v.ren (ext [0] n)=v:=by intro n;rfl):
  Dy (NW P f gargs T) (F1 P pf rf d rest e K):=
 AT (show(∀R,AC P f (gargs.map AV.wk) (T++R) v (T++R))∧T=T from⟨fun R=>by
  have hTR:(T++R)[0]? = some o:=J7 hT R;have :=h.at1 (T:=T++R) 0 (by rw[hro];exact hTR) ha hv ho ho
  rw[hra,hrv,hro',ZdV hTR]at this;rw[hg];exact this,rfl⟩) h'
end
theorem HW.aw2{P:Program}[Tab]{N N0:Nat}{Q:AX→Af→Ae→Prop}{e:Af}{S:Ae}(pf rf:List FuncId){c:Code}(hm:P.follows .mixedOrders=true)(hok:E7 P pf rf N c=true)(h:AW P pf rf N0 (Cm c) Q e S):HW P N N0 c Q e S:=
 fun _ _ _ _ hn hc=>P8 hm hn c Q e S _ _ hok hc h
theorem Zcs(x:Int)(cs:List AV)(c:Nat)(hok:(SObj.cells cs).ok 1=true):AC prog 159 [.ws 0 0 0 c,.it .i64 x] [.cells cs] (.it .i64 0) [.cells cs]:=by
 have h01:((0:Nat):Int)-1 = -1:=rfl;have hall:([.cells cs]:Ae).all (SObj.ok 1)=true:=by rw[List.all_cons,hok];rfl
 refine Ai [132,133,265] [] func159 ?_;refine Aa @h01 ?_;refine DR ?_
 refine run ?_;exact BI hall
theorem Zcr(f:Share)(x:Int)(u v:AV)(c:Nat)(hc:1≤c)(hok:(SObj.cells [.it .i64 f.x,.it .i64 f.y,u,v]).ok 1=true)(hf:(0≤f.x∧f.x<2305843009213693951)∧0≤f.y∧f.y<2305843009213693951)(hx:0≤x∧x<2305843009213693951):AC prog 159 [.ws 0 0 1 c,.it .i64 x] [.cells [.it .i64 f.x,.it .i64 f.y,u,v]] (.it .i64 (HU f x)) [.cells [.it .i64 f.x,.it .i64 f.y,u,v]]:=by
 have h01:((1:Nat):Int)-1=0:=rfl;have hall:([.cells [.it .i64 f.x,.it .i64 f.y,u,v]]:Ae).all (SObj.ok 1)=true:=by rw[List.all_cons,hok];rfl
 unfold HU;have s1:=L6 x f.x (by omega) (by omega)
 have m1:=FR 0 (AZ x f.x) (by omega) (LO _ _)
 have a1:=Jc (AK 0 (AZ x f.x)) f.y (IY _ _) (by omega)
 change AC _ _ _ _ (.it .i64 (AK 0 (AZ x f.x))) _ at m1;generalize BK (AK 0 (AZ x f.x)) f.y=r2 at *;generalize AK 0 (AZ x f.x)=r3 at *;generalize AZ x f.x=r4 at *;refine Ai [132,133,265] [] func159 ?_;refine Aa @h01 ?_;refine Dr 1 fun R hR=>?_
 refine run ?_;refine cp s1 ?_;refine run ?_;refine cp m1 ?_;refine run ?_;refine cp a1 ?_;refine run ?_;refine hR _ _ _ ?_
 clear hR;refine run ?_;exact BI hall
theorem Zhb(a b:Share)(ha:(0≤a.x∧a.x<2305843009213693951)∧0≤a.y∧a.y<2305843009213693951)(hb:(0≤b.x∧b.x<2305843009213693951)∧0≤b.y∧b.y<2305843009213693951)
  (hinv:AK 1 (AZ b.x a.x) % 2305843009213693951≠0):AC prog 160 [.sl .ro [Bm a,Bm b]] [] (.sl .ro [Bm (Dv a),Bm (GY a b)]) []:=by
 have h20:¬((2:Nat):Int)=0:=by decide
 have h2p:(0:Int)<((2:Nat):Int):=by decide
 refine AC.hw 62 func160 rfl (by decide) (Nat.le_of_ble_eq_true rfl) rfl ?_
 refine HW.seq (HW.aw (P:=prog) [] [] (by decide) (by kernel_rfl) ?_)
 refine Al ?_
 refine run ?_;refine HW.seq (HW.aw (P:=prog) [] [] (by decide) (by kernel_rfl) ?_)
 refine Al ?_
 refine Aa (an @h20 @h2p) ?_;refine HW.seq (HW.reg (P:=prog) [] [] (by kernel_rfl) ?_)
 refine Mz [_] [_,_] _ _ (F4 (pf:=[]) (rf:=[]) [_,_] _ _ ?_)
 refine Al ?_
 refine run ?_;refine⟨_,_,ZiE (dT:=95) (sT:=95) (l:=0) (off:=0) (n:=2) (c:=2) (es:=[Bm a,Bm b]) (cs:=[.it .i64 0,.it .i64 0,.it .i64 0,.it .i64 0]) rfl (by rfl) (by rfl) (by rfl) rfl (by decide) (by rfl) (by rfl) (Nat.le_refl 4),?_⟩
 refine F4 (pf:=[]) (rf:=[]) [] _ _ ?_
 simp only[List.map_nil];refine run ?_;change HW _ _ _ _ _ _ [.cells [.it .i64 a.x,.it .i64 a.y,.it .i64 b.x,.it .i64 b.y]];have hsz:AH 2 [Bm a,Bm b]=true:=rfl;have i1:=XW 1 (by omega) (by decide)
 have u1:=L6 a.y 0 (by omega) (by omega)
 have p1:=FR (AZ a.y 0) (Hd 1) (LO _ _) (by have :=Wa 1;omega)
 change AC _ _ _ _ (.it .i64 (Dv a).y) _ at p1;have hfy:0≤(Dv a).y∧(Dv a).y<2305843009213693951:=OS _ _;have hfx:(Dv a).x=a.x:=rfl;have u2:=L6 b.x a.x (by omega) (by omega)
 have p2:=FR 1 (AZ b.x a.x) (by omega) (LO _ _)
 change AC _ _ _ _ (.it .i64 (AK 1 (AZ b.x a.x))) _ at p2;have i2:=XW (AK 1 (AZ b.x a.x)) (IY _ _) hinv;have v0:=Zcs a.x [.it .i64 a.x,.it .i64 a.y,.it .i64 b.x,.it .i64 b.y] 2 rfl;have v1:=Zcr (Dv a) b.x (.it .i64 b.x) (.it .i64 b.y) 2 (by decide) rfl ⟨by rw[hfx];omega,hfy⟩ (by omega)
 have hv1:0≤HU (Dv a) b.x∧HU (Dv a) b.x<2305843009213693951:=RE _ _;have u3:=L6 b.y (HU (Dv a) b.x) (by omega) (by omega)
 have p3:=FR (AZ b.y (HU (Dv a) b.x)) (Hd (AK 1 (AZ b.x a.x))) (LO _ _) (by have :=Wa (AK 1 (AZ b.x a.x));omega)
 change AC _ _ _ _ (.it .i64 (GY a b).y) _ at p3;rw[hfx]at v1;have hfx2:(GY a b).x=b.x:=rfl;rw[show Bm (Dv a)=.agg [.it .i64 a.x,.it .i64 (Dv a).y]from rfl,show Bm (GY a b)=.agg [.it .i64 b.x,.it .i64 (GY a b).y]from rfl]
 generalize (GY a b).y=y2 at *;generalize AZ b.y (HU (Dv a) b.x)=q3 at *;generalize HU (Dv a) b.x=q2 at *;generalize (Dv a).y=y1 at *;generalize Hd (AK 1 (AZ b.x a.x))=q4 at *;generalize AK 1 (AZ b.x a.x)=q5 at *;generalize AZ b.x a.x=q6 at *;generalize AZ a.y 0=q7 at *;generalize Hd 1=q8 at *;refine HW.seq (HW.aw2 (P:=prog) [265,133,266] [159] (by decide) (by kernel_rfl) ?_)
 refine Al ?_
 refine run ?_;refine Dr 2 fun R hR=>?_
 refine Aa @hsz ?_;refine DR ?_
 refine run ?_;refine cp i1 ?_;refine run ?_;refine ZF v0 ?_
 refine run ?_;refine cp u1 ?_;refine run ?_;refine cp p1 ?_;refine run ?_;refine hR _ _ _ ?_
 refine Aa @hsz ?_;refine Dr 1 fun R1 hR1=>?_
 refine run ?_;refine cp u2 ?_;refine run ?_;refine cp p2 ?_;refine run ?_;refine hR1 _ _ _ ?_
 clear hR1;refine run ?_;refine cp i2 ?_;refine run ?_;refine ZF v1 ?_
 refine run ?_;refine cp u3 ?_;refine run ?_;refine cp p3 ?_;refine run ?_;refine hR _ _ _ ?_
 clear hR;refine run ?_;refine HW.weak (Aq.frzW 0 3 0 2 2 (cs:=[.it .i64 a.x,.it .i64 y1,.it .i64 b.x,.it .i64 y2]) (es:=[.agg [.it .i64 a.x,.it .i64 y1],.agg [.it .i64 b.x,.it .i64 y2]]) (tl:=[]) (sz:=2) rfl rfl rfl rfl rfl rfl) ?_
 refine HW.aw (P:=prog) [] [] (by decide) (by kernel_rfl) ?_
 refine Al ?_
 refine run ?_;exact Ad
theorem ZdC(a b:Share)(ha:(1≤a.x∧a.x<2305843009213693951)∧0≤a.y∧a.y<2305843009213693951)(hb:(1≤b.x∧b.x<2305843009213693951)∧0≤b.y∧b.y<2305843009213693951)(hne:a.x≠b.x)
  (hinv:AK 1 (AZ b.x a.x) % 2305843009213693951≠0):AC prog 86 [.sl .ro [Bm a,Bm b],.it .i64 2] [] (.tup [.it .i64 (Pf a b),.bo true]) []:=by
 have kv:=Zct a b ha hb hne;have ki:=Zhb a b (by omega) (by omega) hinv
 have h1:(Dv a).x=a.x:=rfl;have h2:(GY a b).x=b.x:=rfl;have h3:0≤(Dv a).y∧(Dv a).y<2305843009213693951:=OS _ _;have h4:0≤(GY a b).y∧(GY a b).y<2305843009213693951:=OS _ _;have kx:=Zcq (Dv a) (GY a b) 0 (by rw[h1];omega) (by rw[h2];omega) (by omega)
 change AC _ _ _ _ (.it .i64 (Pf a b)) _ at kx;generalize Pf a b=r at *;have hsz:AH 2 [Bm a,Bm b]=true:=rfl;refine Ai [158,160,159] [] func86 ?_;refine Aa @hsz ?_;refine cp kv ?_;refine Aa @hsz ?_;refine cp ki ?_;refine run ?_;refine cp kx ?_;refine run ?_;exact Ad
end Pe
end
section
namespace Pe
open Tryz
open Go Go.RowKit Co Sg Ac It Sl Tp Ho
set_option maxRecDepth 100000
set_option maxHeartbeats 4000000
theorem Q1(n:Int)(h1:1≤n)(h2:n≤2305843009213693950):AC prog 40 [.it .i64 n] [] (.bo true) []:=by
 refine Ai [] [] func40 ?_;refine Aa (an @h1 @h2) ?_;exact Ad
theorem QZ(s:Share)(hx:0≤s.x∧s.x<9223372036854775808)(hy:0≤s.y∧s.y<9223372036854775808):AC prog 72 [Bm s] [] (.st (BA s)) []:=by
 have k1:=BQ s.x hx.2 (by omega)
 have k2:=BQ s.y hy.2 (by omega)
 have l1:=Ec s.x hx.2;have l2:=Ec s.y hy.2;unfold BA;generalize Ah s.x=u at *;generalize Ah s.y=v at *;have l3:u.length+v.length≤70368744177664:=by omega
 refine Ai [67] [] func72 ?_;refine run ?_;refine cp k1 ?_;refine run ?_;refine cp k2 ?_;refine run ?_;exact Ad
theorem Vq(secret:Int)(a:Ac.Act)(i:Nat)(w:Wrap)(s:Share)(hk:a.kind=19)(hw:a.wraps[i]? = some w)(hl:a.wraps.length≤64)(ho:MZ secret w=true)(hn:w.box.nonce.length≤5000)(hs:w.box.data.length≤32)(h0:0<w.box.data.length)(ht:IS (Ig secret w) w.box.nonce w.box.data=w.box.tag)
  (hp:JU secret w=BA s)(hps:I4 (BA s)=s)(hpo:OT (BA s)=true):AC prog 30 [.it .i64 secret,Am a,.it .i64 (i:Int)] [] (.tup [Bm s,.bo true]) []:=by
 have ku:=ZcW secret w ho hn hs h0 ht;rw[hp]at ku;have hlen:(BA s).length≤32:=by
  rw[←hp];unfold JU;rw[RU];omega
 unfold OT at hpo;simp only[Bool.and_eq_true,decide_eq_true_eq]at hpo;obtain⟨⟨⟨⟨⟨o1,o2⟩,o3⟩,o4⟩,o5⟩,o6⟩:=hpo;rw[hps]at o2 o3 o4 o5;have kt:=QZ s (by omega) (by omega)
 have kr:=ZfT (BA s);have hx:s.x=((⟨BA s,false⟩:R).num.1:Int):=(congrArg Share.x hps).symm;have hy:s.y=((⟨BA s,false⟩:R).num.2.num.1:Int):=(congrArg Share.y hps).symm;have hrl:(⟨BA s,false⟩:R).rest.length<9223372036854775808:=by show(BA s).length<_;omega
 obtain⟨n1,y1,e1,r1,b1,k1⟩:=Vz ⟨BA s,false⟩ (by show(BA s).length≤_;omega)
 obtain⟨n2,y2,e2,r2,b2,k2⟩:=Vz y1 r1;have q1:(⟨BA s,false⟩:R).num.2=y1:=congrArg Prod.snd e1;have q2:y1.num.2=y2:=congrArg Prod.snd e2;have hx':n1=s.x:=by rw[hx];exact(congrArg Prod.fst e1).symm
 have hy':n2=s.y:=by rw[hy,q1];exact(congrArg Prod.fst e2).symm
 have kd:=Zip y2;rw[q1,q2]at o1;change(!y2.bad&&y2.rest==[])=true at o1;rw[o1]at kd;have hsx:Bm s=.agg [.it .i64 s.x,.it .i64 s.y]:=rfl;rw[hsx]at kt ⊢;rw[hx']at k1;rw[hy']at k2;generalize BA s=pl at *;have hwz:AH 5 (a.wraps.map Bo)=true:=BM 5 Bo (fun _=>rfl) _
 have hi:i<a.wraps.length:=(List.getElem?_eq_some_iff.1 hw).1
 have hi1:¬(i:Int)<0:=by omega
 have hi2:¬(i:Int)≥(a.wraps.length:Int):=by omega
 have hi3:(0:Int)≤(i:Int):=by omega
 have hi4:(i:Int)<(a.wraps.length:Int):=by omega
 have c1x:¬s.x<1:=by omega
 have c2:¬s.x>2305843009213693950:=by omega
 have c3:¬s.y<0:=by omega
 have c4:¬s.y>2305843009213693950:=by omega
 have hpp:(pl==pl)=true:=by simp
 refine Ai [82,72] [] func30 ?_;refine Aa (A7 @hk @hi1 @hi2 @hi3 @hi4 @hw @hwz) ?_;refine cp ku ?_;refine run ?_;refine AT (kr.newAt _) ?_;refine run ?_;refine c1 2 k1 ?_;refine run ?_;refine c1 2 k2 ?_;refine run ?_;refine c1 2 kd ?_;refine Aa (A4 @c1x @c2 @c3 @c4) ?_;refine cp kt ?_;refine Aa @hpp ?_;exact Ad
theorem ZeL(a:Ac.Act)(x y:Share)(k:Key)(hk:a.kind=19)(hn:a.n=2)(hj:AC prog 86 [.sl .ro [Bm x,Bm y],.it .i64 2] [] (.tup [.it .i64 k.secret,.bo true]) [])(hr:k.right=true)(ho:Sg.keyOf k.secret=k)(hm:k.pub=a.m)(hb:-9223372036854775808≤k.secret∧k.secret≤9223372036854775807):
  AC prog 31 [Am a,.sl .ro [Bm x,Bm y]] [] (.tup [Bx k,.bo true]) []:=by
 have k1:=RP k.secret hb;rw[ho]at k1;have k2:=Nh k hb;rw[hr]at k2;have hq:(a.m==a.m)=true:=by simp
 obtain⟨s,p⟩:=k;simp only at hm hj k1 k2
 subst hm;refine Ai [86,87,43] [] func31 ?_;refine Aa (an @hk @hn) ?_;refine cp hj ?_;refine run ?_;refine cp k1 ?_;refine run ?_;refine cp k2 ?_;refine Aa @hq ?_;exact Ad
end Pe
end
section
namespace Pe
open Tryz
open Go Go.RowKit Co Sg Ac It Sl Tp Ho
set_option maxRecDepth 100000
set_option maxHeartbeats 8000000
abbrev Zky(id:By)(seq:Int)(prev:By)(kind time:Int):AV:=.agg [.st id,.it .i64 seq,.st prev,.it .i64 kind,.it .i64 time,.st [],.st [],.it .i64 0,.st [],.sl .full [],.st [],.st [],.st [],.st [],.it .i64 0,.sl .full [],.it .i64 0,.it .i64 0,.it .i64 0,.it .i64 0]
theorem ZfK(c:Chn)(kind time:Int)(hl:c.acts.length≤1000):AC prog 70 [AN c,.it .i64 kind,.it .i64 time] [] (Zky c.id (c.acts.length:Int) c.prev kind time) []:=by
 obtain⟨id,acts,keys,prev,gen,fork⟩:=c;refine Ai [] [] func70 ?_;refine run ?_;exact Ad
theorem Zet(k:Key)(c:Chn)(f1 f2:By)(p q time:Int)(ka:KeyAt)(kk:Key)(S1 S2:Share)(w0 w1:Wrap)(s:By)
  (hids:CI [f1,f2]=true)(hf:f1.length≤100∧f2.length≤100)(hp:1≤p∧p≤2305843009213693950)(hq:1≤q∧q≤2305843009213693950)
  (hl:c.acts.length≤1000)(hkl:c.keys.length≤1000)(hprev:c.prev.length≤32)(hka:J3 c c.acts.length=(ka,true))(hpub:ka.pub=k.pub)(hkr:k.right=true)(hks:0≤k.secret∧k.secret≤2305843009213693950)
  (hs:OF k c=s)(hkk:Hq s=kk)(hkks:0≤kk.secret∧kk.secret<2305843009213693951)(hsp:MH kk.secret s=(S1,S2))
  (hS1:(0≤S1.x∧S1.x<2305843009213693951)∧0≤S1.y∧S1.y<2305843009213693951)(hS2:(0≤S2.x∧S2.x<2305843009213693951)∧0≤S2.y∧S2.y<2305843009213693951)
  (ht1:0<(BA S1).length)(ht2:0<(BA S2).length)
  (hw0:JB p (s++Ah 0) (BA S1)=w0)(hw1:JB q (s++Ah 1) (BA S2)=w1)
  (hr:Ac.right { Ej c 19 time with to:=[f1,f2],n:=2,m:=kk.pub,wraps:=[w0,w1] }=true):
  AC prog 28 [Bx k,AN c,.sl .ro [.st f1,.st f2],.sl .ro [.it .i64 p,.it .i64 q],.it .i64 2,.it .i64 time] [] (.tup [Am (Er k { Ej c 19 time with to:=[f1,f2],n:=2,m:=kk.pub,wraps:=[w0,w1] }),.it .i64 0]) []:=by
 have hsz:=Oo (C3 hr);have kR:=LM _ hsz;rw[hr]at kR;have kS:=ZdI k { Ej c 19 time with to:=[f1,f2],n:=2,m:=kk.pub,wraps:=[w0,w1] } hsz (by omega)
 have kids:=L3 [f1,f2] (by simp;omega) (by simp)
 rw[hids]at kids;have kck:=Zjs c c.acts.length hl hkl hl;rw[hka]at kck;have krt:=Nh k (by omega)
 rw[hkr]at krt;have n1:=BQ k.secret (by omega) (by omega)
 have n2:=BQ (c.acts.length:Int) (by omega) (by omega)
 have x1:=C2 Og (by decide)
 have x2:=C2 c.prev (by omega)
 have m1:=Ec k.secret (by omega)
 have m2:=Ec (c.acts.length:Int) (by omega)
 have m3:(text Og).length=7:=by decide
 have m4:=UF c.prev (by omega)
 have hsl:s.length≤100:=by
  rw[←hs];unfold OF;simp only[List.length_append];omega
 unfold OF at hs;have kkey:=ZgW s (by omega)
 rw[hkk]at kkey;have ksp:=Zdd kk.secret s (by omega) hkks.1 hkks.2
 rw[hsp]at ksp;have kdr:=ZfK c 19 time hl;have kcl:=Tq [f1,f2] (by simp)
 have z0:=BQ 0 (by omega) (by omega)
 have z1:=BQ 1 (by omega) (by omega)
 have z0l:(Ah 0).length=1:=by decide
 have z1l:(Ah 1).length=1:=by decide
 have t1:=QZ S1 (by omega) (by omega)
 have t2:=QZ S2 (by omega) (by omega)
 have t1l:(BA S1).length≤32:=by
  have a1:=Ec S1.x (by omega)
  have a2:=Ec S1.y (by omega)
  unfold BA;rw[List.length_append];omega
 have t2l:(BA S2).length≤32:=by
  have a1:=Ec S2.x (by omega)
  have a2:=Ec S2.y (by omega)
  unfold BA;rw[List.length_append];omega
 have kw0:=UK p (s++Ah 0) (BA S1) hp.1 hp.2 (by rw[List.length_append];omega) t1l ht1
 have kw1:=UK q (s++Ah 1) (BA S2) hq.1 hq.2 (by rw[List.length_append];omega) t2l ht2
 rw[hw0]at kw0;rw[hw1]at kw1;have up:=Q1 p hp.1 hp.2;have uq:=Q1 q hq.1 hq.2;generalize BA S1=T1 at *;generalize BA S2=T2 at *;generalize Ah 0=N0 at *;generalize Ah 1=N1 at *;generalize Ah k.secret=v2 at *;generalize Ah (c.acts.length:Int)=v3 at *;generalize text Og=v1 at *;generalize text c.prev=v4 at *;have hpq:(k.pub==k.pub)=true:=by simp
 have hszI:AH 1 [AV.it .i64 p,AV.it .i64 q]=true:=rfl;have hszS:AH 2 [Bm S1,Bm S2]=true:=rfl;have g1:v1.length+v2.length≤1000:=by omega
 have g2:v1.length+v2.length+v3.length≤1000:=by omega
 have g3:v1.length+v2.length+v3.length+v4.length≤1000:=by omega
 have g4:s.length+N0.length≤1000:=by omega
 have g5:s.length+N1.length≤1000:=by omega
 subst hs;obtain⟨kfrm,kpb,khm⟩:=ka;simp only at hpub
 subst hpub;refine Ai [64,40,65,43,66,67,68,69,70,60,72,71,73,74] [] func28 ?_;refine run ?_;refine cp kids ?_;refine run ?_;refine Dr 2 fun R hR=>?_
 refine Aa @hszI ?_;refine cp up ?_;refine run ?_;refine hR _ _ _ ?_
 refine Aa @hszI ?_;refine cp uq ?_;refine run ?_;refine hR _ _ _ ?_
 clear hR;refine run ?_;refine cp kck ?_;refine run ?_;refine cp krt ?_;refine Aa @hpq ?_;refine cp x1 ?_;refine run ?_;refine cp n1 ?_;refine run ?_;refine cp n2 ?_;refine run ?_;refine cp x2 ?_;refine run ?_;refine cp kkey ?_;refine run ?_;refine cp ksp ?_;refine run ?_;refine cp kdr ?_;refine run ?_;refine cp kcl ?_;refine run ?_;refine Dr 2 fun R hR=>?_
 refine Aa @hszI ?_;refine cp z0 ?_;refine Aa @hszS ?_;refine cp t1 ?_;refine run ?_;refine cp kw0 ?_;refine run ?_;refine hR _ _ _ ?_
 refine Aa @hszI ?_;refine cp z1 ?_;refine Aa @hszS ?_;refine cp t2 ?_;refine run ?_;refine cp kw1 ?_;refine run ?_;refine hR _ _ _ ?_
 clear hR;refine run ?_;refine cp kR ?_;refine run ?_;refine cp kS ?_;refine run ?_;exact Ad
end Pe
end
end Go.Proofs.YtchpmmjmimaigaaGreatDoor
