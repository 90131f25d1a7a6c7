import Derived.Test.YtchpmmjmimaigaaGreatDoorKh26
set_option linter.unusedSectionVars false
set_option linter.unusedVariables false
set_option linter.unusedSimpArgs false
namespace Go.Proofs.YtchpmmjmimaigaaGreatDoor
section
namespace Pe
open Tryz
open Go Go.RowKit Co Sg Ac It Sl Tp
set_option maxRecDepth 100000
abbrev BG(A:List Ac.Act):List Dm:=A.map fun a=>((a.seq,a.prev),AV.sl .ro [Am a])
def Ha(A:List Ac.Act)(n:Int)(s:By):Option Ac.Act:=A.find? fun a=>n==a.seq&&s==a.prev
theorem Sv(n:Int)(s:By):∀(A:List Ac.Act) (i:Nat),(Dg n s (BG A) i=none∧Ha A n s=none) ∨ ∃j a,Dg n s (BG A) i=some (i+j)∧A[j]? = some a∧Ha A n s=some a
 |[],_=>.inl ⟨rfl,rfl⟩
 | a::A,i=>by
  unfold Ha;rw[List.find?_cons]
  show(Dg n s (((a.seq,a.prev),AV.sl .ro [Am a])::BG A) i=none∧_)∨_
  cases hb:(n==a.seq&&s==a.prev)with
  |true=>
   refine .inr ⟨0,a,?_,rfl,rfl⟩
   show Dg n s (((a.seq,a.prev),AV.sl .ro [Am a])::BG A) i=_
   unfold Dg;rw[if_pos hb];rfl
  | false=>
   have e:Dg n s (((a.seq,a.prev),AV.sl .ro [Am a])::BG A) i=Dg n s (BG A) (i+1):=by
    rw[Dg,if_neg (by rw[hb];decide)]
   rcases Sv n s A (i+1)with⟨h1,h2⟩|⟨j,b,h1,h2,h3⟩
   ·exact .inl ⟨e.trans h1,h2⟩
   ·refine .inr ⟨j+1,b,?_,h2,h3⟩
    show Dg n s (((a.seq,a.prev),AV.sl .ro [Am a])::BG A) i=_
    rw[e,h1,show i+1+j=i+(j+1) by omega]
theorem Zai(A:List Ac.Act)(n:Int)(s:By):Ku n s (BG A)=match Ha A n s with
  |some a=>.sl .ro [Am a]
  |none=>.sl .full []:=by
 unfold Ku;rcases Sv n s A 0 with⟨h1,h2⟩|⟨j,a,h1,h2,h3⟩
 ·rw[h1,h2]
 ·rw[h1,h3,Nat.zero_add]
  simp only
  rw[List.getD_eq_getElem?_getD,List.getElem?_map,h2]
  rfl
theorem Py(n:Nat):∀A:List Ac.Act,(DK (BG A)).ok n=true
 |[]=>rfl
 |a::A=>by
  have :=Py n A;show((AV.o2 n (Eu a.seq a.prev)&&AV.o2 n (AV.sl .ro [Am a]))&&(DK (BG A)).ok n)=true
  rw[this];rfl
abbrev P5(A:List Ac.Act):Prop:=(A.map fun a=>(a.seq,a.prev)).Nodup
theorem Zhn{A:List Ac.Act}(h:P5 A){k:Nat}(hk:k<A.length):Dg A[k].seq A[k].prev (BG (A.take k)) 0=none:=by
 rcases Sv A[k].seq A[k].prev (A.take k) 0 with⟨h1,_⟩|⟨j,a,_,h2,h3⟩
 ·exact h1
 ·exfalso
  have hp:=List.find?_some h3
  simp only[Bool.and_eq_true,beq_iff_eq]at hp;have hj:=(List.getElem?_eq_some_iff.1 h2).1
  rw[List.length_take]at hj;rw[List.getElem?_take,if_pos (by omega)]at h2
  have :=List.pairwise_iff_getElem.1 h j k (by rw[List.length_map];omega) (by rw[List.length_map];omega) (by omega)
  simp only[List.getElem_map]at this;rw[(List.getElem?_eq_some_iff.1 h2).2]at this
  exact this (by rw[hp.1,hp.2])
theorem Rz{A:List Ac.Act}{n:Int}{s:By}{a:Ac.Act}(h:Ha A n s=some a):a∈A∧a.seq=n∧a.prev=s:=by
 have hp:=List.find?_some h
 simp only[Bool.and_eq_true,beq_iff_eq]at hp;exact⟨List.mem_of_find?_eq_some h,hp.1.symm,hp.2.symm⟩
theorem ZjG{A:List Ac.Act}(h:P5 A)(c:Chn):BD A c=match Ha A c.acts.length c.prev with
  |some a=>if(Bp c a&&B0 (Cy c).pub a)=true then [a]else []
  |none=>[]:=by
 have hnd:A.Nodup:=List.Pairwise.imp (fun {a b} hab e=>hab (by rw[e])) (List.pairwise_map.1 h)
 cases hp:Ha A c.acts.length c.prev with
 |none=>
  simp only
  rw[BD,List.filter_eq_nil_iff];intro x hx hpx;rw[Bool.and_eq_true]at hpx;obtain⟨_,_,f3,f4,_⟩:=Gp hpx.1;have :=List.find?_eq_none.1 hp x hx
  simp[f3,f4]at this
 | some a=>
  obtain⟨p1,p2,p3⟩:=Rz hp;simp only
  have huniq:∀x∈A,(Bp c x&&B0 (Cy c).pub x)=true→x=a:=fun x hx hpx=>by
   rw[Bool.and_eq_true]at hpx;obtain⟨_,_,f3,f4,_⟩:=Gp hpx.1;exact LS h hx p1 (by rw[f3,f4,p2,p3])
  split
  ·rename_i hb
   exact Md hnd p1 hb huniq
  ·rename_i hb
   rw[BD,List.filter_eq_nil_iff];intro x hx hpx;exact hb (by rw[←huniq x hx hpx];exact hpx)
end Pe
end
section
namespace Pe
open Tryz
open Go Go.RowKit Co Sg Ac It Sl Tp
set_option maxRecDepth 100000
set_option maxHeartbeats 8000000
abbrev TD(ps:List Int)(items:List AV)(id:By):SObj:=
 .cells [AB ps,.sl .ro items,.st id,.sl .full [],.sl .full [],.st [],.it .i64 0,.bo false,.mp 2,.mp 3,.st [],.it .i64 0,.st [],.it .i64 0,.it .i64 0,.it .i64 0,.it .i64 0,.it .i64 0,.it .i64 0,.bo false]
abbrev Gv:SObj:=.cells [.st [],.sl .full [],.sl .full [],.st [],.it .i64 0,.bo false]
theorem Zks(n:Nat)(A:List Ac.Act):(Dl A).ok n=true:=rfl
theorem Zce(A:List Ac.Act):((BG A).map fun p=>(Eu p.1.1 p.1.2,p.2)).map (fun p=>(p.1,p.2.wk1))=(BG A).map fun p=>(Eu p.1.1 p.1.2,p.2):=by
 rw[List.map_map,List.map_map,List.map_map];rfl
theorem ZR(ps:List Int)(items:List AV)(c:Chn)(cl:It.Claim)(won:Bool)(n:Nat)(hn:9≤n):(Fx ps items c cl won).ok n=true:=by
 have h7:decide (7<n)=true:=decide_eq_true (by omega)
 have h8:decide (8<n)=true:=decide_eq_true (by omega)
 have h2:decide (2<n)=true:=decide_eq_true (by omega)
 have h3:decide (3<n)=true:=decide_eq_true (by omega)
 simp only[SObj.ok,List.all_cons,List.all_nil,AV.o1,AV.o0,h7,h8,h2,h3,Bool.and_self,Bool.and_true]
theorem ZjV(ps:List Int)(items:List AV)(cl:It.Claim)(won:Bool)(A:List Ac.Act)(a0:Ac.Act)(c:Chn):BOk ps items cl won (BG A) (.cells [AB ps,.sl .ro items]) Gv (.cells (Am a0).cells) (.buf 1 55 20) c:=
 ⟨fun _ _=>rfl,fun _ _=>rfl,fun n=>Py n A,fun c cl won n hn=>ZR ps items c cl won n hn,fun _ _=>rfl,fun _ _=>rfl⟩
end Pe
end
section
namespace Pe
open Tryz
open Go Go.RowKit Co Sg Ac It Sl Tp
set_option maxRecDepth 100000
set_option maxHeartbeats 8000000
section
variable (ps:List Int) (items:List AV) (cl:It.Claim) (es:List Dm) (o0 o1 c5 c6:SObj)
theorem Ze4(c:Chn)(h:BOk ps items cl true es o0 o1 c5 c6 c)(hl:c.acts.length≤100)(hn:¬(cl.base=(c.acts.length:Int)∧cl.prev=c.prev)):
  AC prog 38 [.ptr 4 0] (B6 ps items cl true es o0 o1 c5 c6 c) (.bo false) (B6 ps items cl true es o0 o1 c5 c6 c):=by
 have hok:=h.st9;unfold B6 at hok ⊢;by_cases hb:cl.base=(c.acts.length:Int)
 ·have hp:¬cl.prev=c.prev:=fun e=>hn ⟨hb,e⟩
  refine Ai [48,13,14] [] func38 ?_;have hp1:(cl.prev==c.prev)=false:=by simpa using hp
  have hp2:(cl.prev !=c.prev)=true:=by rw[bne,hp1];rfl
  refine Aa (A4 @hb @hp @hp1 @hp2) ?_;exact BI hok
 ·refine Ai [48,13,14] [] func38 ?_
  refine Aa @hb ?_;exact BI hok
theorem Ze1(c:Chn)(cl':It.Claim)(won':Bool)(a:Ac.Act)(h:BOk ps items cl true es o0 o1 c5 c6 c)(hl:c.acts.length≤100)(hlk:c.keys.length≤200)(hgn:0≤c.gen∧c.gen≤1000)
  (hb:cl.base=(c.acts.length:Int))(hp:cl.prev=c.prev)(hs:FH c.acts=some a)(hcl:It.claimed a.m cl=true)
  (kc:AC prog 48 [.it .i64 a.m,Br cl] [] (.bo (It.claimed a.m cl)) [])(kd:AC prog 14 [Ao (Ax cl)] [] (.st (It.digest (Ax cl))) [])
  (kw:AC prog 20 [.agg [AB ps,.sl .ro items],.st c.id,.it .i64 (c.gen+1)] [] (.tup [Br cl',.bo won']) []):
  AC prog 38 [.ptr 4 0] (B6 ps items cl true es o0 o1 c5 c6 c) (.bo true) (B6 ps items cl' won' es o0 o1 c5 c6 (EJ c cl)):=by
 have hbk:∀c' cl' w',BOk ps items cl' w' es o0 o1 c5 c6 c':=fun c' cl' w'=>⟨h.o0,h.o1,h.es,h.bld,h.c5,h.c6⟩
 have hok:=BOk.st9 ps items cl' won' es o0 o1 c5 c6 (hbk (EJ c cl) cl' won');have kl:=W4 ps items cl true es o0 o1 c5 c6 (EJ c cl) cl' won' (hbk _ _ _) kw;have ko:=Hg cl;have hza:=D6 c.acts;have hzk:=J2 c.keys;have hwg:IntKind.i64.wrap (c.gen+1)=c.gen+1:=wrap64 (by omega) (by omega)
 have hR:Fx ps items (EJ c cl) cl true=PW ps items c.id (c.acts.map Am) (c.keys.map Cr++[Cr (⟨(c.acts.length:Int),cl.pub,cl.home⟩:Tp.KeyAt)]) (It.digest (Ax cl)) (c.gen+1) c.fork cl true:=by
  unfold Fx;rw[show(EJ c cl).keys=c.keys++[⟨(c.acts.length:Int),cl.pub,cl.home⟩]from rfl,List.map_append]
  rfl
 have hlk2:(EJ c cl).keys.length=c.keys.length+1:=by show(c.keys++[_]).length=_;simp
 have hAc:(EJ c cl).acts=c.acts:=rfl;unfold B6 at hok kl ⊢;rw[hR,hlk2,hAc]at kl;rw[hlk2,hAc]at hok ⊢;have hlw:IntKind.i64.wrap ((c.acts.length:Int)-1)=(c.acts.length:Int)-1:=wrap64 (by omega) (by omega)
 rw[hcl]at kc;unfold FH at hs;refine Ai [48,13,14] [] func38 ?_;refine Aa (A3 @hb @hp @hlw) ?_;refine CG (fun m e S=>e 0=.ptr 4 0∧e 3=.ptr 4 2∧S=B6 ps items cl true es o0 o1 c5 c6 c ∧ ∃k:Nat,e 4=.it .i64 ((k:Int)-1)∧k≤c.acts.length∧(c.acts.take k).reverse.find? (fun a=>a.kind==19)=some a∧m=k) c.acts.length _ _ (Aq.refl _ _ _)
  ⟨Ab,Ab,rfl,c.acts.length,Ab,Nat.le_refl _,by rw[List.take_length];exact hs,rfl⟩ ?_
 rintro m e S ⟨s0,s3,rfl,k,s4,hk,hf,rfl⟩
 unfold B6;match m,hk,hf,s4 with
 |0,hk,hf,s4=>
  simp at hf
 | k+1,hk,hf,s4=>
  have hlt:k<c.acts.length:=by omega
  have hg:c.acts[k]? = some c.acts[k]:=List.getElem?_eq_getElem hlt
  have hgp:c.acts.take (k+1)=c.acts.take k++[c.acts[k]]:=List.take_succ_eq_append_getElem hlt;have hk1:((k+1:Nat):Int)-1=(k:Int):=by omega
  have hk2:(0:Int)≤(k:Int):=by omega
  have hk3:(k:Int)<(c.acts.length:Int):=by omega
  have hkw:IntKind.i64.wrap ((k:Int)-1)=(k:Int)-1:=wrap64 (by omega) (by omega)
  rw[hgp,List.reverse_append,List.reverse_singleton,List.singleton_append,List.find?_cons]at hf
  rw[hk1]at s4;generalize c.acts[k]=x at *;cases hx:x.kind==19 with
  |true=>
   rw[hx]at hf;simp only[Option.some.injEq]at hf;subst hf;have hx':x.kind=19:=by simpa using hx
   refine Aa (A8 @s0 @s3 @s4 @hg @hk2 @hk3 @hza @hx') ?_;refine cp kc ?_;refine Aa (A5 @s0 @s3 @hzk @hlk @hwg) ?_;refine cp ko ?_;refine Aa (an @s0 @s3) ?_;refine cp kd ?_;refine Aa (an @s0 @s3) ?_;refine AT kl ?_;refine run ?_;exact BI hok
  |false=>
   rw[hx]at hf;simp only at hf
   have hx':¬x.kind=19:=by simpa using hx
   refine Aa (F3 @s0 @s3 @s4 @hg @hk2 @hk3 @hza @hx' @hx @hkw) ?_;exact As k (by omega) ⟨Ab,Ab,rfl,k,Ab,by omega,hf,rfl⟩
theorem Ze2(c:Chn)(h:BOk ps items cl true es o0 o1 c5 c6 c)(hl:c.acts.length≤100)
  (hb:cl.base=(c.acts.length:Int))(hp:cl.prev=c.prev)(hs:(match FH c.acts with |some a=>It.claimed a.m cl|none=>false)=false)
  (kc:∀a∈c.acts,AC prog 48 [.it .i64 a.m,Br cl] [] (.bo (It.claimed a.m cl)) []):
  AC prog 38 [.ptr 4 0] (B6 ps items cl true es o0 o1 c5 c6 c) (.bo false) (B6 ps items cl true es o0 o1 c5 c6 c):=by
 have hok:=h.st9;have hza:=D6 c.acts;unfold B6 at hok ⊢;have hlw:IntKind.i64.wrap ((c.acts.length:Int)-1)=(c.acts.length:Int)-1:=wrap64 (by omega) (by omega)
 unfold FH at hs;refine Ai [48,13,14] [] func38 ?_;refine Aa (A3 @hb @hp @hlw) ?_;refine CG (fun m e S=>e 0=.ptr 4 0∧e 3=.ptr 4 2∧S=B6 ps items cl true es o0 o1 c5 c6 c ∧ ∃k:Nat,e 4=.it .i64 ((k:Int)-1)∧k≤c.acts.length∧(match(c.acts.take k).reverse.find? (fun a=>a.kind==19)with |some a=>It.claimed a.m cl|none=>false)=false∧m=k) c.acts.length _ _ (Aq.refl _ _ _)
  ⟨Ab,Ab,rfl,c.acts.length,Ab,Nat.le_refl _,by rw[List.take_length];exact hs,rfl⟩ ?_
 rintro m e S ⟨s0,s3,rfl,k,s4,hk,hf,rfl⟩
 unfold B6;match m,hk,hf,s4 with
 |0,hk,hf,s4=>
  have h0:((0:Nat):Int)-1 = -1:=rfl;rw[h0]at s4;refine Aa (A3 @s0 @s3 @s4) ?_;exact BI hok
 | k+1,hk,hf,s4=>
  have hlt:k<c.acts.length:=by omega
  have hg:c.acts[k]? = some c.acts[k]:=List.getElem?_eq_getElem hlt
  have hgp:c.acts.take (k+1)=c.acts.take k++[c.acts[k]]:=List.take_succ_eq_append_getElem hlt;have hk1:((k+1:Nat):Int)-1=(k:Int):=by omega
  have hk2:(0:Int)≤(k:Int):=by omega
  have hk3:(k:Int)<(c.acts.length:Int):=by omega
  have hkw:IntKind.i64.wrap ((k:Int)-1)=(k:Int)-1:=wrap64 (by omega) (by omega)
  rw[hgp,List.reverse_append,List.reverse_singleton,List.singleton_append,List.find?_cons]at hf
  rw[hk1]at s4;have kx:=kc c.acts[k] (List.getElem_mem hlt);generalize c.acts[k]=x at *;cases hx:x.kind==19 with
  |true=>
   rw[hx]at hf;simp only at hf
   rw[hf]at kx;have hx':x.kind=19:=by simpa using hx
   refine Aa (A8 @s0 @s3 @s4 @hg @hk2 @hk3 @hza @hx') ?_;refine cp kx ?_;refine run ?_;exact BI hok
  |false=>
   rw[hx]at hf;simp only at hf
   have hx':¬x.kind=19:=by simpa using hx
   refine Aa (F3 @s0 @s3 @s4 @hg @hk2 @hk3 @hza @hx' @hx @hkw) ?_;exact As k (by omega) ⟨Ab,Ab,rfl,k,Ab,by omega,hf,rfl⟩
end
end Pe
end
section
namespace Pe
open Tryz
open Go Go.RowKit Co Sg Ac It Sl Tp
set_option maxRecDepth 100000
set_option maxHeartbeats 8000000
theorem ZcG{c:Chn}{cl x:It.Claim}(h:FG c (some cl)=some x):x=cl∧cl.base=(c.acts.length:Int)∧cl.prev=c.prev ∧ ∃a,FH c.acts=some a∧It.claimed a.m cl=true:=by
 unfold FG at h;simp only at h
 cases hs:FH c.acts with
 |none=>
  rw[hs]at h;simp at h
 | some a=>
  rw[hs]at h;simp only at h
  by_cases hc:cl.base=(c.acts.length:Int)∧cl.prev=c.prev∧It.claimed a.m cl=true
  ·rw[if_pos hc]at h
   exact⟨(Option.some.inj h).symm,hc.1,hc.2.1,a,rfl,hc.2.2⟩
  ·rw[if_neg hc]at h
   cases h
theorem ZcH{c:Chn}{cl:It.Claim}(h:FG c (some cl)=none)(h1:cl.base=(c.acts.length:Int))(h2:cl.prev=c.prev):(match FH c.acts with |some a=>It.claimed a.m cl|none=>false)=false:=by
 unfold FG at h;simp only at h
 cases hs:FH c.acts with
 |none=>rfl
 | some a=>
  rw[hs]at h;simp only at h
  cases e:It.claimed a.m cl with
  |false=>exact e
  |true=>
   rw[if_pos ⟨h1,h2,e⟩]at h;cases h
theorem Ze0(ps:List Int)(items:List AV)(cl:It.Claim)(w:Bool)(es:List Dm)(o0 o1 c5 c6:SObj)(c:Chn)(h:BOk ps items cl w es o0 o1 c5 c6 c)(hl:c.acts.length≤100)
  (ht:FG c (if w=true then some cl else none)=none)(kc:w=true → ∀a∈c.acts,AC prog 48 [.it .i64 a.m,Br cl] [] (.bo (It.claimed a.m cl)) []):
  AC prog 38 [.ptr 4 0] (B6 ps items cl w es o0 o1 c5 c6 c) (.bo false) (B6 ps items cl w es o0 o1 c5 c6 c):=by
 cases w with
 |false=>exact Ze3 ps items cl es o0 o1 c5 c6 c h
 |true=>
  rw[if_pos rfl]at ht;by_cases hb:cl.base=(c.acts.length:Int)∧cl.prev=c.prev
  ·exact Ze2 ps items cl es o0 o1 c5 c6 c h hl hb.1 hb.2 (ZcH ht hb.1 hb.2) (kc rfl)
  ·exact Ze4 ps items cl es o0 o1 c5 c6 c h hl hb
theorem Zy(ps:List Int)(items:List AV)(id:By)(A:List Ac.Act)(a0:Ac.Act)(r:Chn)(W:Int→It.Claim×Bool)(n:Nat)
  (kA:AC prog 33 [.agg [AB ps,.sl .ro items],.st id] [] (Dl A) [])
  (kw:∀g,AC prog 20 [.agg [AB ps,.sl .ro items],.st id,.it .i64 g] [] (.tup [Br (W g).1,.bo (W g).2]) [])
  (hW:∀g,(W g).2=true→Iz (Ax (W g).1)∧0≤(W g).1.pub∧(W g).1.pub≤2305843009213693950)
  (kcl:∀g m,(W g).2=true→Db m→AC prog 48 [.it .i64 m,Br (W g).1] [] (.bo (It.claimed m (W g).1)) [])
  (hr:KA A)(hpos:P5 A)(hdg:(A.map dg).Nodup)(hal:A.length≤60)(hnl:n≤60)(ha0:a0∈A)(hb:Cl id a0=true)
  (hruns:G6 (fun g=>if(W g).2=true then some (W g).1 else none) A n (AF id [a0]) r):
  AC prog 8 [.agg [AB ps,.sl .ro items],.st id] [] (AN r) []:=by
 obtain⟨b1,b2,b3,b4,b5,b6⟩:=Sf hb;have hra0:=hr a0 ha0;have hsm:=C3 hra0;have hsz:=D6 A;have hV0:Ku 0 [] (BG A)=.sl .ro [Am a0]:=by
  rw[Zai]
  have:Ha A 0 []=some a0:=by
   cases hp:Ha A 0 []with
   |none=>
    have :=List.find?_eq_none.1 hp a0 ha0
    simp[b3,b4]at this
   |some a=>
    obtain⟨p1,p2,p3⟩:=Rz hp;rw[LS hpos p1 ha0 (by rw[p2,p3,b3,b4])]
  rw[this]
 have kid:=Zhr a0.n (by have :=hsm.n;exact⟨by omega,by omega⟩)
 rw[b5]at kid;have kver:=Ux a0.n a0 (EA (act_signed ps hra0).1).act (by have :=hsm.n;exact⟨by omega,by omega⟩)
 rw[b6]at kver;have hk0:(a0.kind==0)=true:=beq_iff_eq.2 b2;have hidd:(id==id)=true:=beq_self_eq_true _;refine AC.hw 121 func8 rfl (by decide) (Nat.le_of_ble_eq_true rfl) rfl ?_
 refine HW.seq (HW.aw (P:=prog) [] [] (by decide) (by kernel_rfl) ?_)
 refine Al ?_
 refine run ?_;refine HW.seq (HW.aw (P:=prog) [] [] (by decide) (by kernel_rfl) ?_)
 refine Al ?_
 refine run ?_;refine HW.seq (HW.seq (HW.aw (P:=prog) [33] [] (by decide) (by kernel_rfl) ?_))
 refine Al ?_
 refine run ?_;refine cp kA ?_;refine run ?_;refine HW.block (HW.loop (fun t e S=>∃k:Nat,k≤A.length∧t=A.length-k∧e 1=.st id∧e 2=.ptr 0 0∧e 4=.ptr 1 0∧e 5=.ptr 4 0∧e 21=Dl A∧e 22=.it .i64 (A.length:Int)∧e 23=.it .i64 (k:Int)∧S=[.cells [AB ps,.sl .ro items],Gv,DK (BG (A.take k)),.map [],TD ps items id]) A.length _ _ (Aq.refl _ _ _) ⟨0,Nat.zero_le _,rfl,Ab,Ab,Ab,Ab,Ab,Ab,Ab,rfl⟩ ?_)
 rintro t e S ⟨k,hk,rfl,s1,s2,s4,s5,s21,s22,s23,rfl⟩
 by_cases hlt:k<A.length
 ·have hlt':(k:Int)<(A.length:Int):=by omega
  have hg:A[k]? = some A[k]:=List.getElem?_eq_getElem hlt
  have hnew:=Zhn hpos hlt;have htk:A.take (k+1)=A.take k++[A[k]]:=List.take_succ_eq_append_getElem hlt;have w1:=Cg (k:=k) (by omega)
  have hel:(BG (A.take k)).length=k:=by rw[List.length_map,List.length_take];omega
  have k0:(0:Int)≤(k:Int):=by omega
  generalize A[k]=a at *;refine HW.seq (HW.aw (P:=prog) [] [] (by decide) (by kernel_rfl) ?_)
  refine Al ?_
  refine Aa (A3 @s22 @s23 @hlt') ?_;refine HW.seq (HW.aw (P:=prog) [] [] (by decide) (by kernel_rfl) ?_)
  refine Al ?_
  refine run ?_;refine HW.seq (HW.block (HW.seq (HW.aw (P:=prog) [] [] (by decide) (by kernel_rfl) ?_)))
  refine Al ?_
  refine Aa (A6 @s21 @s23 @hg @hsz @hlt' @k0) ?_;refine HW.seq (HW.aw (P:=prog) [] [] (by decide) (by kernel_rfl) ?_)
  refine Al ?_
  refine run ?_;refine HW.spec4 (P:=prog) [] [] [5] [38] [] (by decide) (by decide +kernel) (by decide +kernel) ?_
  refine IK [_,_,_,_,_] [_,_,_,_,_,_,_] _ _ (FE (pf:=[]) (rf:=[]) [_,_,_,_,_,_,_] _ _ ?_)
  refine Al ?_
  repeat (refine g4 (by rfl) ?_;(first|refine BJ ?_|refine a4 ?_);refine runf4 @s5 ?_;(first|refine EO ?_|refine C7 ?_))
  refine EB ?_
  refine Uq (ZiD (n:=a.seq) (s:=a.prev) (es:=BG (A.take k)) (l:=2) rfl (by rfl) (by rfl) (by rfl) hnew) ?_ ?_
  ·intro k hk
   simp only[List.mem_cons,List.not_mem_nil,or_false]at hk;subst hk;rfl
  rw[hel];refine IK [_] [_,_,_] _ _ (FE (pf:=[]) (rf:=[]) [_,_,_] _ _ ?_)
  refine Al ?_
  repeat (refine g4 (by rfl) ?_;(first|refine BJ ?_|refine a4 ?_);refine runf4 @s5 ?_;(first|refine EO ?_|refine C7 ?_))
  refine EB ?_
  refine Uq (ZiC (p:=(a.seq,a.prev)) (es:=BG (A.take k)) (v0:=.sl .full []) (l:=2) rfl (by rfl) (by rw[hel];rfl) (by rfl) (by rfl)) ?_ ?_
  ·intro k hk
   simp only[List.mem_cons,List.not_mem_nil,or_false]at hk;subst hk;rfl
  refine HW.aw (P:=prog) [] [] (by decide) (by kernel_rfl) ?_
  refine Al ?_
  refine Aa (an @s23 @w1) ?_;refine⟨A.length-(k+1),Aw (Aw (Aw (Aw (Aw (Aw (Aw (fun _=>.junk) 1 (.st id)) 2 (.ptr 0 0)) 4 (.ptr 1 0)) 5 (.ptr 4 0)) 21 (Dl A)) 22 (.it .i64 (A.length:Int))) 23 (.it .i64 ((k+1:Nat):Int)),[.cells [AB ps,.sl .ro items],Gv,DK (BG (A.take (k+1))),.map [],TD ps items id],by omega,?_,k+1,by omega,rfl,Ab,Ab,Ab,Ab,Ab,Ab,Ab,rfl⟩
  refine Aq.trans2 (Aq.wkMap 0 2 rfl) ?_
  simp only[List.set_cons_succ,List.set_cons_zero];have hst:((BG (A.take k)++[((a.seq,a.prev),AV.sl (Mode.own 7) [Am a])]).map fun p=>(Eu p.1.1 p.1.2,p.2)).map (fun p=>(p.1,p.2.wk1))=(BG (A.take (k+1))).map fun p=>(Eu p.1.1 p.1.2,p.2):=by
   rw[htk,show BG (A.take k++[a])=BG (A.take k)++BG [a]from List.map_append,List.map_append,List.map_append,List.map_append,Zce]
   rfl
  rw[hst];refine Aq.pre 0 (S':=[.cells [AB ps,.sl .ro items],Gv,DK (BG (A.take (k+1))),.map [],TD ps items id]) (T:=[_,_,_]) ?_ ?_
  ·exact(((((((IJ.nil 5 _).cons 1 _ Ab).cons 2 _ Ab).cons 4 _ Ab).cons 5 _ Ab).cons 21 _ Ab (Zks 5 A)).cons 22 _ Ab).cons 23 _ Ab
  ·show(SObj.ok 5 _&&(SObj.ok 5 _&&(SObj.ok 5 (DK _)&&(SObj.ok 5 _&&(SObj.ok 5 _&&true)))))=true
   rw[Py 5];rfl
 ·obtain rfl:k=A.length:=by omega
  have hlt':¬(A.length:Int)<(A.length:Int):=by omega
  rw[List.take_length];refine HW.seq (HW.aw (P:=prog) [] [] (by decide) (by kernel_rfl) ?_)
  refine Al ?_
  refine Aa (A3 @s22 @s23 @hlt') ?_;refine HW.seq (HW.aw (P:=prog) [] [] (by decide) (by kernel_rfl) ?_)
  refine Al ?_
  refine run ?_;refine HW.seq (HW.aw (P:=prog) [] [] (by decide) (by kernel_rfl) ?_)
  refine Al ?_
  refine run ?_;refine HW.seq (HW.seq (HW.reg (P:=prog) [] [] (by kernel_rfl) ?_))
  refine Mz [_,_,_] [_,_,_,_,_] _ _ (F4 (pf:=[]) (rf:=[]) [_,_,_,_,_] _ _ ?_)
  refine Al ?_
  refine Aa @s5 ?_;refine⟨_,_,⟨rfl,fun R=>Nx (n:=0) (s:=[]) (es:=BG A) (l:=2) rfl (by rfl) (by rfl) (by rfl)⟩,?_⟩
  rw[hV0];refine F4 (pf:=[]) (rf:=[]) [_,_] _ _ ?_
  refine Al ?_
  refine run ?_;refine HW.aw (P:=prog) [34,35] [] (by decide) (by kernel_rfl) ?_
  refine Al ?_
  refine run ?_;refine LX fun K hK=>?_
  refine Aa (an @hk0 @s1) ?_;refine cp kid ?_;refine Aa (an @hidd @s1) ?_;refine cp kver ?_;refine run ?_;refine hK _ _ ?_
  refine Aa @s5 ?_;refine HW.seq (HW.aw (P:=prog) [] [] (by decide) (by kernel_rfl) ?_)
  refine Al ?_
  refine Aa @s5 ?_;refine HW.seq (HW.aw (P:=prog) [] [] (by decide) (by kernel_rfl) ?_)
  refine Al ?_
  refine Aa @s5 ?_;refine HW.weak (Aq.reserveN 0 4 3 rfl rfl 55 20) ?_
  refine HW.weak (Aq.reserveN 0 4 4 rfl rfl 74 3) ?_
  simp only[List.set_cons_succ,List.set_cons_zero,List.length_cons,List.length_nil,List.length_append,List.cons_append,List.nil_append,Nat.reduceAdd];refine HW.aw (P:=prog) [] [] (by decide) (by kernel_rfl) ?_
  refine Al ?_
  refine Aa @s5 ?_;have hB:=fun cl c=>ZjV ps items cl false A a0 c
  have ka:=ZaD ps items CX false (BG A) (.cells [AB ps,.sl .ro items]) Gv (.cells (Am a0).cells) (.buf 1 55 20) { Tp.nilC id with keys:=[⟨0,a0.n,a0.m⟩] } a0 hra0 (by simp[Tp.nilC]) (by simp[Tp.nilC]) (by simp) (.inr trivial) rfl rfl (Py 9 A) (ZR _ _ _ _ _ 9 (Nat.le_refl _)) rfl rfl
  have hc1:En { Tp.nilC id with keys:=[⟨0,a0.n,a0.m⟩] } a0=AF id [a0]:=by
   unfold En AF;rw[if_neg (by rw[b2];decide)]
   show _=Bi (Tp.nilC id) a0
   unfold Bi;rw[if_pos (.inr b2),if_pos b2];rfl
  rw[hc1]at ka;have kl:=W4 ps items CX false (BG A) (.cells [AB ps,.sl .ro items]) Gv (.cells (Am a0).cells) (.buf 1 55 20) (AF id [a0]) (W 0).1 (W 0).2 (hB CX _) (by rw[J8,Ma];exact kw 0)
  have hacts:(AF id [a0]).acts=[a0]:=ED id [a0];have hcg:(AF id [a0]).gen=0:=Ma id [a0];have hcid:(AF id [a0]).id=id:=J8 id [a0];have hck:(AF id [a0]).keys=[⟨0,a0.n,a0.m⟩]:=by
   show(Bi (Tp.nilC id) a0).keys=_
   unfold Bi;rw[if_pos (.inr b2),if_pos b2];rfl
  have hnb:0≤a0.n∧a0.n≤2305843009213693950:=⟨by have :=hsm.n;omega,by have :=hsm.n;omega⟩
  have hBW:=fun cl w c=>(⟨(hB cl c).o0,(hB cl c).o1,(hB cl c).es,(hB cl c).bld,(hB cl c).c5,(hB cl c).c6⟩:BOk ps items cl w (BG A) (.cells [AB ps,.sl .ro items]) Gv (.cells (Am a0).cells) (.buf 1 55 20) c)
  generalize AF id [a0]=c1 at *;refine AT ka ?_;refine Aa @s5 ?_;refine AT kl ?_;clear ka kl hc1;refine run ?_;rw[show(W 0).1=(W c1.gen).1 by rw[hcg],show(W 0).2=(W c1.gen).2 by rw[hcg]]
  refine Bn (fun t e S=>e 4=.ptr 1 0∧e 5=.ptr 4 0 ∧ ∃c:Chn,S=[.cells [AB ps,.sl .ro items],Gv,DK (BG A),.map (Fp c.acts 0),Fx ps items c (W c.gen).1 (W c.gen).2,.cells (Am a0).cells,.buf 1 55 20,NL c.acts.length,NK c.keys.length]∧G6 (fun g=>if(W g).2=true then some (W g).1 else none) A t c r∧(∀k∈c.keys,0≤k.pub∧k.pub≤2305843009213693950)∧(∀x∈c.acts,x∈A∧x.seq<(c.acts.length:Int))∧c.acts.length+t≤100∧c.acts≠[]∧c.keys≠[]∧c.keys.length+t≤100∧0≤c.gen∧c.gen+t≤100∧c.id=id) n ⟨Ab,Ab,c1,rfl,hruns,by rw[hck];intro k hk;rw[List.mem_singleton.1 hk];exact hnb,by rw[hacts];intro x hx;rw[List.mem_singleton.1 hx];exact⟨ha0,by rw[b3];simp⟩,by rw[hacts];simp;omega,by rw[hacts];simp,by rw[hck];simp,by rw[hck];simp;omega,by omega,by omega,hcid⟩ ?_
  clear s1 s2 s4 s5 s21 s22 s23 hruns hck hacts hcg hcid;rintro t e S ⟨s4,s5,c,rfl,hrun,hkb,hsub,htl,hne,hk1,hkt,hg0,hgt,hci⟩
  rw[GJ s4];cases t with
  |zero=>exact hrun.elim
  |succ t=>
  have hlast:0≤(Cy c).pub∧(Cy c).pub≤2305843009213693950:=by
   have hl0:0<c.keys.length:=List.length_pos_iff.2 hk1;unfold Cy;rw[List.getD_eq_getElem?_getD,List.getElem?_eq_getElem (by omega)]
   exact hkb _ (List.getElem_mem _)
  unfold G6 at hrun;have hcm:∀a∈c.acts,Db a.m:=fun a ha=>by
   have :=(C3 (hr a (hsub a ha).1)).m;exact⟨by omega,by omega⟩
  cases htk:FG c (if(W c.gen).2=true then some (W c.gen).1 else none)with
  | some cl2=>
   rw[htk]at hrun;simp only at hrun
   cases hw:(W c.gen).2 with
   |false=>rw[hw,if_neg (by decide)]at htk;cases htk
   |true=>
   rw[hw,if_pos rfl]at htk;obtain⟨he,h1,h2,a,hs,h3⟩:=ZcG htk;subst he;obtain⟨hz,hp1,hp2⟩:=hW _ hw;have ham:a∈c.acts:=List.mem_reverse.1 (List.mem_of_find?_eq_some hs)
   have kr:=Ze1 ps items (W c.gen).1 (BG A) (.cells [AB ps,.sl .ro items]) Gv (.cells (Am a0).cells) (.buf 1 55 20) c (W (c.gen+1)).1 (W (c.gen+1)).2 a (hBW _ _ c) (by omega) (by omega) ⟨hg0,by omega⟩ h1 h2 hs h3 (kcl _ _ hw (hcm a ham)) (Gs _ hz) (by rw[hci];exact kw (c.gen+1))
   unfold B6 at kr;refine Aa @s5 ?_;refine AT kr ?_;refine Aa (an @s4 @s5) ?_;refine As t (by omega) ⟨Ab,Ab,EJ c (W c.gen).1,rfl,hrun,?_,hsub,by show c.acts.length+t≤100;omega,hne,?_,?_,?_,?_,hci⟩
   ·intro k hk
    rcases List.mem_append.1 hk with hk|hk
    ·exact hkb k hk
    ·rw[List.mem_singleton.1 hk];exact⟨hp1,hp2⟩
   ·show c.keys++[_]≠[]
    simp
   ·show(c.keys++[_]).length+t≤100
    simp
    omega
   ·show 0≤c.gen+1
    omega
   ·show c.gen+1+t≤100
    omega
  |none=>
  rw[htk]at hrun;simp only at hrun
  have kr:=Ze0 ps items (W c.gen).1 (W c.gen).2 (BG A) (.cells [AB ps,.sl .ro items]) Gv (.cells (Am a0).cells) (.buf 1 55 20) c (hBW _ _ c) (by omega) htk (fun hw a ha=>kcl _ _ hw (hcm a ha))
  rw[ZjG hpos c]at hrun;have hat:=Zai A (c.acts.length:Int) c.prev;cases hp:Ha A (c.acts.length:Int) c.prev with
  |none=>
   rw[hp]at hrun hat;simp only at hrun hat
   have kc:=Zi7 ps items (W c.gen).1 (W c.gen).2 (BG A) (.cells [AB ps,.sl .ro items]) Gv (.cells (Am a0).cells) (.buf 1 55 20) c (hBW _ _ c) (by omega) (by omega) hk1 hat
   subst hrun;refine Aa @s5 ?_;refine AT kr ?_;refine Aa @s5 ?_;refine AT kc ?_;refine Aa (an @s4 @s5) ?_;exact AQ
  | some a=>
   obtain⟨p1,p2,p3⟩:=Rz hp;rw[hp]at hrun hat;simp only at hrun hat
   have hdn:dg a∉c.acts.map dg:=fun hm=>by
    obtain⟨x,hx,e⟩:=List.mem_map.1 hm;obtain⟨q1,q2⟩:=hsub x hx;have :=LS hdg q1 p1 e;rw[this,p2]at q2;omega
   have kc:=Zi6 ps items (W c.gen).1 (W c.gen).2 (BG A) (.cells [AB ps,.sl .ro items]) Gv (.cells (Am a0).cells) (.buf 1 55 20) c a (hBW _ _ c) (by omega) (by omega) hk1 hat (hr a p1) hdn ⟨by omega,by omega⟩
   cases hfv:(Bp c a&&B0 (Cy c).pub a)with
   |false=>
    rw[hfv,if_neg (by decide)]at kc hrun
    simp only at hrun
    subst hrun;refine Aa @s5 ?_;refine AT kr ?_;refine Aa @s5 ?_;refine AT kc ?_;refine Aa (an @s4 @s5) ?_;exact AQ
   | true=>
    rw[hfv,if_pos rfl]at kc hrun;simp only at hrun
    have hfit:=Gp ((Bool.and_eq_true _ _).mp hfv).1;have hk00:a.kind≠0:=fun e=>by
     have :=hfit.2.2.2.2.1.1 e;exact hne (List.eq_nil_of_length_eq_zero this)
    rw[Zkr hk00]at kc;have hal2:(Bi c a).acts.length=c.acts.length+1:=by show(c.acts++[a]).length=_;simp
    have hkb2:∀k∈(Bi c a).keys,0≤k.pub∧k.pub≤2305843009213693950:=fun k hk=>by
     rw[Zak]at hk;split at hk
     ·rename_i hk18
      rcases List.mem_append.1 hk with hk|hk
      ·exact hkb k hk
      ·rw[List.mem_singleton.1 hk]
       have h2:=(C3 (hr a p1)).n;exact⟨by show 0≤a.n;omega,by show a.n≤_;omega⟩
     ·exact hkb k hk
    have hkl2:c.keys.length≤(Bi c a).keys.length∧(Bi c a).keys.length≤c.keys.length+1:=by
     rw[Zak];split
     ·rw[List.length_append];exact⟨by omega,by simp⟩
     ·exact⟨by omega,by omega⟩
    refine Aa @s5 ?_;refine AT kr ?_;refine Aa @s5 ?_;refine AT kc ?_;refine Aa (an @s4 @s5) ?_;refine As t (by omega) ⟨Ab,Ab,Bi c a,rfl,hrun,hkb2,?_,by rw[hal2];omega,?_,?_,by omega,hg0,by show c.gen+t≤100;omega,hci⟩
    ·intro x hx
     rw[hal2];rcases List.mem_append.1 hx with hx|hx
     ·exact⟨(hsub x hx).1,by have :=(hsub x hx).2;omega⟩
     ·rw[List.mem_singleton.1 hx];exact⟨p1,by rw[p2];omega⟩
    ·show c.acts++[a]≠[]
     simp
    ·exact fun e=>hk1 (List.eq_nil_of_length_eq_zero (by have :=congrArg List.length e;rw[List.length_nil]at this;omega))
end Pe
end
section
namespace Pe
open Tryz
open Go Go.RowKit Co Sg Ac It Sl Tp Sr
set_option maxRecDepth 100000
set_option maxHeartbeats 4000000
def BS(a:It.Ballot):List AV:=[.it .i64 a.server,.st a.actor,.it .i64 a.gen,.st a.claim,.it .i64 a.time,.it .i64 a.sig.e,.it .i64 a.sig.s]
theorem PC:Enc BS 7:=⟨fun _=>rfl,fun _=>rfl⟩
theorem ZgE(p q:Fo It.Ballot):AC prog 286 [.agg (BW BS p),.agg (BW BS q)] [] (.it .i64 (Gu p.rank q.rank p.dig q.dig)) []:=by
 obtain⟨r,d,a⟩:=p;obtain⟨r',d',b⟩:=q;have k1:=To r r';have k2:=Tn d d';have k3:=RI (Ki r r') (Jk d d');show AC _ _ [.agg [.it .i64 r,.st d,.it .i64 a.server,.st a.actor,.it .i64 a.gen,.st a.claim,.it .i64 a.time,.it .i64 a.sig.e,.it .i64 a.sig.s],.agg [.it .i64 r',.st d',.it .i64 b.server,.st b.actor,.it .i64 b.gen,.st b.claim,.it .i64 b.time,.it .i64 b.sig.e,.it .i64 b.sig.s]] _ _ _
 refine Ai [166,167,165] [] func286 ?_;refine run ?_;refine cp k1 ?_;refine run ?_;refine cp k2 ?_;refine run ?_;refine cp k3 ?_;refine run ?_;exact Ad
theorem Zhh(n:Nat)(P X Q:List (Fo It.Ballot))(hn:P.length+X.length+Q.length=n)(hl:n≤1000)(hT:Tot AE X):
  AC prog 366 [.wr 0 n none,.it .i64 (P.length:Int),.it .i64 ((P.length+X.length:Nat):Int),.fn (.func 286) [] []]
   [.row (Ay BS (P++X++Q)) 303 9] (.tup []) [.row (Ay BS (P++Ci AE X++Q)) 303 9]:=by
 have henc:=PC;refine AC.enter2 [1000022] [] func366 rfl (by decide) (by decide) (Nat.le_of_ble_eq_true rfl) (by kernel_rfl) ?_
 refine Al ?_
 have w0:IntKind.i64.wrap ((P.length:Int)+1)=((P.length+1:Nat):Int):=by rw[wrap64 (by omega) (by omega)];omega
 cases X with
 |nil=>
  have hx:¬((P.length+1:Nat):Int)<((P.length+([]:List (Fo It.Ballot)).length:Nat):Int):=by simp only[List.length_nil];omega
  have hs:Ci AE ([]:List (Fo It.Ballot))=[]:=Lx (.refl _) .nil;rw[hs];refine Aa @w0 ?_;refine DR ?_
  refine Aa @hx ?_;exact Ei (F8 henc _ _ _ _)
 |cons x X=>
 generalize hb:P.length+(x::X).length=b at *;rw[List.length_cons]at hb;refine Aa @w0 ?_;refine Bn (fun m e S=>e 0=.wr 0 n none∧e 1=.it .i64 (P.length:Int)∧e 2=.it .i64 (b:Int)∧e 3=.fn (.func 286) [] [] ∧ ∃(U W:List (Fo It.Ballot)),e 8=.it .i64 ((P.length+U.length:Nat):Int)∧S=[.row (Ay BS (P++(U++W)++Q)) 303 9]∧(U++W).Perm (x::X)∧Up AE U∧m=W.length) X.length ⟨Ab,Ab,Ab,Ab,[x],X,Ab,rfl,.refl _,by simp,rfl⟩ ?_
 rintro m e S ⟨s0,s1,s2,s3,U,W,s8,rfl,hpm,hU,rfl⟩
 have hlen:=hpm.length_eq;rw[List.length_append,List.length_cons]at hlen;cases W with
 |nil=>
  have hlt':¬((P.length+U.length:Nat):Int)<(b:Int):=by simp only[List.length_nil]at hlen;omega
  rw[List.append_nil]at hpm ⊢;rw[Lx hpm hU];refine Aa (A6 @s0 @s1 @s2 @s3 @s8 @hlt') ?_;exact Ei (F8 henc _ _ _ _)
 |cons v W=>
 rw[List.length_cons]at hlen;have hlt':((P.length+U.length:Nat):Int)<(b:Int):=by omega
 have w1:IntKind.i64.wrap (((P.length+U.length:Nat):Int)+1)=((P.length+(U.length+1):Nat):Int):=by rw[wrap64 (by omega) (by omega)];omega
 refine Aa (A6 @s0 @s1 @s2 @s3 @s8 @hlt') ?_;refine Bn (fun m e S=>e 0=.wr 0 n none∧e 1=.it .i64 (P.length:Int)∧e 2=.it .i64 (b:Int)∧e 3=.fn (.func 286) [] []∧e 8=.it .i64 ((P.length+U.length:Nat):Int) ∧ ∃(V Z:List (Fo It.Ballot)),e 9=.it .i64 ((P.length+V.length:Nat):Int)∧S=[.row (Ay BS (P++V++v::(Z++(W++Q)))) 303 9]∧V++Z=U∧(∀y∈Z,AE v y=true)∧m=V.length) U.length ⟨Ab,Ab,Ab,Ab,Ab,U,[],Ab,by simp,by simp,by simp,rfl⟩ ?_
 clear s0 s1 s2 s3 s8;rintro m e S ⟨s0,s1,s2,s3,s8,V,Z,s9,rfl,hVZ,hZ,rfl⟩
 have hnext:∀(h:∀V' z,V=V'++[z]→AE z v=true),(V++v::Z++W).Perm (x::X)∧Up AE (V++v::Z)∧P.length+(U.length+1)=P.length+(V++v::Z).length∧P++V++v::(Z++(W++Q))=P++(V++v::Z++W)++Q:=fun h=>by
  refine⟨?_,Qq Lv (by rw[hVZ];exact hU) h hZ,?_,by simp⟩
  ·refine List.Perm.trans ?_ hpm
   rw[←hVZ];have h1:(V++v::Z).Perm (v::(V++Z)):=List.perm_middle;refine(h1.append_right W).trans ?_
   exact List.perm_middle.symm
  ·rw[←hVZ,List.length_append,List.length_append,List.length_cons]
   omega
 rcases List.eq_nil_or_concat V with hV|⟨V',z,hV⟩
 ·have hn:¬((P.length+V.length:Nat):Int)>(P.length:Int):=by rw[hV,List.length_nil];omega
  obtain⟨g1,g2,g3,g4⟩:=hnext fun V' z h=>by rw[hV]at h;simp at h
  rw[g4];obtain⟨q,hq⟩:∃q,q=P.length+(V++v::Z).length:=⟨_,rfl⟩
  rw[g3,←hq]at w1;refine Aa (A8 @s0 @s1 @s2 @s3 @s8 @s9 @hn @w1) ?_;clear hV g3 g4;exact As W.length (by simp) ⟨Ab,Ab,Ab,Ab,V++v::Z,W,by rw[←hq];clear hq;exact Ab,rfl,g1,g2,rfl⟩
 ·rw [List.concat_eq_append]at hV
  have hVl:V.length=V'.length+1:=by rw[hV];simp
  have hUl:V.length+Z.length=U.length:=by rw[←hVZ,List.length_append]
  obtain⟨j,hj⟩:∃j,j=P.length+V'.length:=⟨_,rfl⟩
  rw[show P.length+V.length=j+1 by omega]at s9
  have hn:((j+1:Nat):Int)>(P.length:Int):=by omega
  have wj:IntKind.i64.wrap (((j+1:Nat):Int)-1)=(j:Int):=by rw[wrap64 (by omega) (by omega)];omega
  have hM:P++V++v::(Z++(W++Q))=(P++V')++z::v::(Z++(W++Q)):=by rw[hV];simp
  have hjl:(P++V').length=j:=by rw[List.length_append,hj]
  have hYl:((P++V')++z::v::(Z++(W++Q))).length=n:=by
   rw[←hVZ,List.length_append]at hlen;simp only[List.length_append,List.length_cons]at *;omega
  have g0:((P++V')++z::v::(Z++(W++Q)))[j]? = some z:=by rw[←hjl];exact SA _ _ _
  have g1:((P++V')++z::v::(Z++(W++Q)))[j+1]? = some v:=by
   rw[←hjl,List.getElem?_append_right (by omega),show(P++V').length+1-(P++V').length=1 by omega]
   rfl
  have hsw:(((P++V')++z::v::(Z++(W++Q))).set (j+1) z).set j v=P++V'++v::((z::Z)++(W++Q)):=by
   have :=Qy (P++V') [] (Z++(W++Q)) z v;rw[hjl]at this;show _=(P++V')++v::([]++z::(Z++(W++Q)))
   rw[←this];unfold MF;rw[List.set_comm _ _ (by omega)]
   rfl
  rw[hM];generalize hY:(P++V')++z::v::(Z++(W++Q))=Y at *;have a1:=H6 henc Y (j+1) _ g1;have a0:=H6 henc Y j _ g0;have hF:=FK henc Y;rw[hYl]at hF;change((Ay BS Y).drop ((j+1)*9)).take 9=_ at a1;change((Ay BS Y).drop (j*9)).take 9=_ at a0;change _=n*9 at hF;have hj1:j+1<n:=by have :=(List.getElem?_eq_some_iff.1 g1).1;omega
  have b1:(j+1)*9+9≤n*9:=by omega
  have b0:j*9+9≤n*9:=by omega
  have x1:((j+1:Nat):Int)<(n:Int):=by omega
  have x0:(j:Int)<(n:Int):=by omega
  have z1:(0:Int)≤((j+1:Nat):Int):=by omega
  have z0:(0:Int)≤(j:Int):=by omega
  have q1:((j+1)*9=0∧9=n*9)=False:=eq_false (by omega)
  have q0:(j*9=0∧9=n*9)=False:=eq_false (by omega)
  have kc:=ZgE v z;have lv:=henc.cel v;have lz:=henc.cel z;change _=9 at lv;change _=9 at lz;refine Aa (an @s0 (an @s1 (an @s2 (an @s3 (an @s8 (an @s9 (an @hn (an @wj (an @x1 (an @x0 (AA @z1 @z0 @hF @a1 @a0 @b1 @b0 @q1 @q0 @lv @lz))))))))))) ?_;refine cp kc ?_;cases hlf:AE v z with
  | false=>
   have hc:¬Gu v.rank z.rank v.dig z.dig<0:=of_decide_eq_false hlf;have hvx:v∈x::X:=hpm.mem_iff.1 (by simp)
   have hzx:z∈x::X:=hpm.mem_iff.1 (by rw[←hVZ,hV];simp)
   have hzv:AE z v=true:=by
    rcases hT.tri v hvx z hzx hlf with e|e
    ·exfalso
     have hnd:=hpm.nodup_iff.2 hT.nodup;rw[←hVZ,hV,e]at hnd;simp[List.nodup_append]at hnd
    ·exact e
   obtain⟨g1,g2,g3,g4⟩:=hnext fun V2 z2 h=>by
    rw[hV]at h;have :=(List.append_inj' h rfl).2;cases this
    exact hzv
   rw[hM]at g4;rw[g4];obtain⟨q,hq⟩:∃q,q=P.length+(V++v::Z).length:=⟨_,rfl⟩
   rw[g3,←hq]at w1;clear g3 g4;refine Aa (A8 @s0 @s1 @s2 @s3 @s8 @s9 @hc @w1) ?_;exact As W.length (by simp) ⟨Ab,Ab,Ab,Ab,V++v::Z,W,by rw[←hq];clear hq;exact Ab,rfl,g1,g2,rfl⟩
  | true=>
   have hc:Gu v.rank z.rank v.dig z.dig<0:=of_decide_eq_true hlf;have e1:Bc (Ay BS Y) ((j+1)*9) (BW BS z)=Ay BS (Y.set (j+1) z):=LK henc Y (j+1) z (by omega)
   have e2:Bc (Ay BS (Y.set (j+1) z)) (j*9) (BW BS v)=Ay BS ((Y.set (j+1) z).set j v):=LK henc _ j v (by rw[List.length_set];omega)
   have hF1:(Ay BS (Y.set (j+1) z)).length=n*9:=by
    have :=FK henc (Y.set (j+1) z);rwa[List.length_set,hYl]at this
   refine Aa (an @s0 (an @s1 (an @s2 (an @s3 (an @s8 (an @s9 (an @hc (an @wj (an @x1 (an @x0 (an @z1 (an @z0 (an @hF (AA @a1 @a0 @b1 @b0 @q1 @q0 @e1 @e2 @hF1 @lv @lz)))))))))))))) ?_;rw[hsw];exact As V'.length (by omega) ⟨Ab,Ab,Ab,Ab,Ab,V',z::Z,by rw[←hj];exact Ab,rfl,by rw[←hVZ,hV];simp,fun y hy=>(List.mem_cons.1 hy).elim (fun e=>by rw[e];exact hlf) (hZ y),rfl⟩
end Pe
end
section
namespace Pe
open Tryz
open Go Go.RowKit Co Sg Ac It Sl Tp Sr
set_option maxRecDepth 100000
set_option maxHeartbeats 4000000
def BR(a:It.Claim):List AV:=[.st a.actor,.it .i64 a.base,.st a.prev,.it .i64 a.gen,.it .i64 a.home,.it .i64 a.pub,.it .i64 a.time,.it .i64 a.sig.e,.it .i64 a.sig.s]
theorem Pz:Enc BR 9:=⟨fun _=>rfl,fun _=>rfl⟩
theorem ZgD(p q:Fo It.Claim):AC prog 206 [.agg (BW BR p),.agg (BW BR q)] [] (.it .i64 (Gu p.rank q.rank p.dig q.dig)) []:=by
 obtain⟨r,d,a⟩:=p;obtain⟨r',d',b⟩:=q;have k1:=To r r';have k2:=Tn d d';have k3:=RI (Ki r r') (Jk d d');show AC _ _ [.agg [.it .i64 r,.st d,.st a.actor,.it .i64 a.base,.st a.prev,.it .i64 a.gen,.it .i64 a.home,.it .i64 a.pub,.it .i64 a.time,.it .i64 a.sig.e,.it .i64 a.sig.s],.agg [.it .i64 r',.st d',.st b.actor,.it .i64 b.base,.st b.prev,.it .i64 b.gen,.it .i64 b.home,.it .i64 b.pub,.it .i64 b.time,.it .i64 b.sig.e,.it .i64 b.sig.s]] _ _ _
 refine Ai [166,167,165] [] func206 ?_;refine run ?_;refine cp k1 ?_;refine run ?_;refine cp k2 ?_;refine run ?_;refine cp k3 ?_;refine run ?_;exact Ad
theorem Zhe(n:Nat)(P X Q:List (Fo It.Claim))(hn:P.length+X.length+Q.length=n)(hl:n≤1000)(hT:Tot AE X):
  AC prog 342 [.wr 0 n none,.it .i64 (P.length:Int),.it .i64 ((P.length+X.length:Nat):Int),.fn (.func 206) [] []]
   [.row (Ay BR (P++X++Q)) 255 11] (.tup []) [.row (Ay BR (P++Ci AE X++Q)) 255 11]:=by
 have henc:=Pz;refine AC.enter2 [1000022] [] func342 rfl (by decide) (by decide) (Nat.le_of_ble_eq_true rfl) (by kernel_rfl) ?_
 refine Al ?_
 have w0:IntKind.i64.wrap ((P.length:Int)+1)=((P.length+1:Nat):Int):=by rw[wrap64 (by omega) (by omega)];omega
 cases X with
 |nil=>
  have hx:¬((P.length+1:Nat):Int)<((P.length+([]:List (Fo It.Claim)).length:Nat):Int):=by simp only[List.length_nil];omega
  have hs:Ci AE ([]:List (Fo It.Claim))=[]:=Lx (.refl _) .nil;rw[hs];refine Aa @w0 ?_;refine DR ?_
  refine Aa @hx ?_;exact Ei (F8 henc _ _ _ _)
 |cons x X=>
 generalize hb:P.length+(x::X).length=b at *;rw[List.length_cons]at hb;refine Aa @w0 ?_;refine Bn (fun m e S=>e 0=.wr 0 n none∧e 1=.it .i64 (P.length:Int)∧e 2=.it .i64 (b:Int)∧e 3=.fn (.func 206) [] [] ∧ ∃(U W:List (Fo It.Claim)),e 8=.it .i64 ((P.length+U.length:Nat):Int)∧S=[.row (Ay BR (P++(U++W)++Q)) 255 11]∧(U++W).Perm (x::X)∧Up AE U∧m=W.length) X.length ⟨Ab,Ab,Ab,Ab,[x],X,Ab,rfl,.refl _,by simp,rfl⟩ ?_
 rintro m e S ⟨s0,s1,s2,s3,U,W,s8,rfl,hpm,hU,rfl⟩
 have hlen:=hpm.length_eq;rw[List.length_append,List.length_cons]at hlen;cases W with
 |nil=>
  have hlt':¬((P.length+U.length:Nat):Int)<(b:Int):=by simp only[List.length_nil]at hlen;omega
  rw[List.append_nil]at hpm ⊢;rw[Lx hpm hU];refine Aa (A6 @s0 @s1 @s2 @s3 @s8 @hlt') ?_;exact Ei (F8 henc _ _ _ _)
 |cons v W=>
 rw[List.length_cons]at hlen;have hlt':((P.length+U.length:Nat):Int)<(b:Int):=by omega
 have w1:IntKind.i64.wrap (((P.length+U.length:Nat):Int)+1)=((P.length+(U.length+1):Nat):Int):=by rw[wrap64 (by omega) (by omega)];omega
 refine Aa (A6 @s0 @s1 @s2 @s3 @s8 @hlt') ?_;refine Bn (fun m e S=>e 0=.wr 0 n none∧e 1=.it .i64 (P.length:Int)∧e 2=.it .i64 (b:Int)∧e 3=.fn (.func 206) [] []∧e 8=.it .i64 ((P.length+U.length:Nat):Int) ∧ ∃(V Z:List (Fo It.Claim)),e 9=.it .i64 ((P.length+V.length:Nat):Int)∧S=[.row (Ay BR (P++V++v::(Z++(W++Q)))) 255 11]∧V++Z=U∧(∀y∈Z,AE v y=true)∧m=V.length) U.length ⟨Ab,Ab,Ab,Ab,Ab,U,[],Ab,by simp,by simp,by simp,rfl⟩ ?_
 clear s0 s1 s2 s3 s8;rintro m e S ⟨s0,s1,s2,s3,s8,V,Z,s9,rfl,hVZ,hZ,rfl⟩
 have hnext:∀(h:∀V' z,V=V'++[z]→AE z v=true),(V++v::Z++W).Perm (x::X)∧Up AE (V++v::Z)∧P.length+(U.length+1)=P.length+(V++v::Z).length∧P++V++v::(Z++(W++Q))=P++(V++v::Z++W)++Q:=fun h=>by
  refine⟨?_,Qq Lv (by rw[hVZ];exact hU) h hZ,?_,by simp⟩
  ·refine List.Perm.trans ?_ hpm
   rw[←hVZ];have h1:(V++v::Z).Perm (v::(V++Z)):=List.perm_middle;refine(h1.append_right W).trans ?_
   exact List.perm_middle.symm
  ·rw[←hVZ,List.length_append,List.length_append,List.length_cons]
   omega
 rcases List.eq_nil_or_concat V with hV|⟨V',z,hV⟩
 ·have hn:¬((P.length+V.length:Nat):Int)>(P.length:Int):=by rw[hV,List.length_nil];omega
  obtain⟨g1,g2,g3,g4⟩:=hnext fun V' z h=>by rw[hV]at h;simp at h
  rw[g4];obtain⟨q,hq⟩:∃q,q=P.length+(V++v::Z).length:=⟨_,rfl⟩
  rw[g3,←hq]at w1;refine Aa (A8 @s0 @s1 @s2 @s3 @s8 @s9 @hn @w1) ?_;clear hV g3 g4;exact As W.length (by simp) ⟨Ab,Ab,Ab,Ab,V++v::Z,W,by rw[←hq];clear hq;exact Ab,rfl,g1,g2,rfl⟩
 ·rw [List.concat_eq_append]at hV
  have hVl:V.length=V'.length+1:=by rw[hV];simp
  have hUl:V.length+Z.length=U.length:=by rw[←hVZ,List.length_append]
  obtain⟨j,hj⟩:∃j,j=P.length+V'.length:=⟨_,rfl⟩
  rw[show P.length+V.length=j+1 by omega]at s9
  have hn:((j+1:Nat):Int)>(P.length:Int):=by omega
  have wj:IntKind.i64.wrap (((j+1:Nat):Int)-1)=(j:Int):=by rw[wrap64 (by omega) (by omega)];omega
  have hM:P++V++v::(Z++(W++Q))=(P++V')++z::v::(Z++(W++Q)):=by rw[hV];simp
  have hjl:(P++V').length=j:=by rw[List.length_append,hj]
  have hYl:((P++V')++z::v::(Z++(W++Q))).length=n:=by
   rw[←hVZ,List.length_append]at hlen;simp only[List.length_append,List.length_cons]at *;omega
  have g0:((P++V')++z::v::(Z++(W++Q)))[j]? = some z:=by rw[←hjl];exact SA _ _ _
  have g1:((P++V')++z::v::(Z++(W++Q)))[j+1]? = some v:=by
   rw[←hjl,List.getElem?_append_right (by omega),show(P++V').length+1-(P++V').length=1 by omega]
   rfl
  have hsw:(((P++V')++z::v::(Z++(W++Q))).set (j+1) z).set j v=P++V'++v::((z::Z)++(W++Q)):=by
   have :=Qy (P++V') [] (Z++(W++Q)) z v;rw[hjl]at this;show _=(P++V')++v::([]++z::(Z++(W++Q)))
   rw[←this];unfold MF;rw[List.set_comm _ _ (by omega)]
   rfl
  rw[hM];generalize hY:(P++V')++z::v::(Z++(W++Q))=Y at *;have a1:=H6 henc Y (j+1) _ g1;have a0:=H6 henc Y j _ g0;have hF:=FK henc Y;rw[hYl]at hF;change((Ay BR Y).drop ((j+1)*11)).take 11=_ at a1;change((Ay BR Y).drop (j*11)).take 11=_ at a0;change _=n*11 at hF;have hj1:j+1<n:=by have :=(List.getElem?_eq_some_iff.1 g1).1;omega
  have b1:(j+1)*11+11≤n*11:=by omega
  have b0:j*11+11≤n*11:=by omega
  have x1:((j+1:Nat):Int)<(n:Int):=by omega
  have x0:(j:Int)<(n:Int):=by omega
  have z1:(0:Int)≤((j+1:Nat):Int):=by omega
  have z0:(0:Int)≤(j:Int):=by omega
  have q1:((j+1)*11=0∧11=n*11)=False:=eq_false (by omega)
  have q0:(j*11=0∧11=n*11)=False:=eq_false (by omega)
  have kc:=ZgD v z;have lv:=henc.cel v;have lz:=henc.cel z;change _=11 at lv;change _=11 at lz;refine Aa (an @s0 (an @s1 (an @s2 (an @s3 (an @s8 (an @s9 (an @hn (an @wj (an @x1 (an @x0 (AA @z1 @z0 @hF @a1 @a0 @b1 @b0 @q1 @q0 @lv @lz))))))))))) ?_;refine cp kc ?_;cases hlf:AE v z with
  | false=>
   have hc:¬Gu v.rank z.rank v.dig z.dig<0:=of_decide_eq_false hlf;have hvx:v∈x::X:=hpm.mem_iff.1 (by simp)
   have hzx:z∈x::X:=hpm.mem_iff.1 (by rw[←hVZ,hV];simp)
   have hzv:AE z v=true:=by
    rcases hT.tri v hvx z hzx hlf with e|e
    ·exfalso
     have hnd:=hpm.nodup_iff.2 hT.nodup;rw[←hVZ,hV,e]at hnd;simp[List.nodup_append]at hnd
    ·exact e
   obtain⟨g1,g2,g3,g4⟩:=hnext fun V2 z2 h=>by
    rw[hV]at h;have :=(List.append_inj' h rfl).2;cases this
    exact hzv
   rw[hM]at g4;rw[g4];obtain⟨q,hq⟩:∃q,q=P.length+(V++v::Z).length:=⟨_,rfl⟩
   rw[g3,←hq]at w1;clear g3 g4;refine Aa (A8 @s0 @s1 @s2 @s3 @s8 @s9 @hc @w1) ?_;exact As W.length (by simp) ⟨Ab,Ab,Ab,Ab,V++v::Z,W,by rw[←hq];clear hq;exact Ab,rfl,g1,g2,rfl⟩
  | true=>
   have hc:Gu v.rank z.rank v.dig z.dig<0:=of_decide_eq_true hlf;have e1:Bc (Ay BR Y) ((j+1)*11) (BW BR z)=Ay BR (Y.set (j+1) z):=LK henc Y (j+1) z (by omega)
   have e2:Bc (Ay BR (Y.set (j+1) z)) (j*11) (BW BR v)=Ay BR ((Y.set (j+1) z).set j v):=LK henc _ j v (by rw[List.length_set];omega)
   have hF1:(Ay BR (Y.set (j+1) z)).length=n*11:=by
    have :=FK henc (Y.set (j+1) z);rwa[List.length_set,hYl]at this
   refine Aa (an @s0 (an @s1 (an @s2 (an @s3 (an @s8 (an @s9 (an @hc (an @wj (an @x1 (an @x0 (an @z1 (an @z0 (an @hF (AA @a1 @a0 @b1 @b0 @q1 @q0 @e1 @e2 @hF1 @lv @lz)))))))))))))) ?_;rw[hsw];exact As V'.length (by omega) ⟨Ab,Ab,Ab,Ab,Ab,V',z::Z,by rw[←hj];exact Ab,rfl,by rw[←hVZ,hV];simp,fun y hy=>(List.mem_cons.1 hy).elim (fun e=>by rw[e];exact hlf) (hZ y),rfl⟩
end Pe
end
section
namespace Pe
open Tryz
open Go Go.RowKit Co Sg Ac It Sl Tp Sr
set_option maxRecDepth 100000
set_option maxHeartbeats 4000000
abbrev Fc:=Fo It.Claim
theorem Zhf(n a b:Nat)(P X Q:List Fc)(ha:P.length=a)(hb:a+X.length=b)(hl:n≤1000)(hT:Tot AE X)(hn:(P++X++Q).length=n):
  AC prog 342 [.wr 0 n none,.it .i64 (a:Int),.it .i64 (b:Int),.fn (.func 206) [] []]
   [.row (Ay BR (P++X++Q)) 255 11] (.tup []) [.row (Ay BR (P++Ci AE X++Q)) 255 11]:=by
 subst ha hb;exact Zhe n P X Q (by simpa only[List.length_append] using hn) hl hT
theorem Zc6(n:Nat)(M:List Fc)(hn:M.length=n)(hl:n<20)(hT:Tot AE M):AC prog 292 [.wr 0 n none,.it .i64 (n:Int),.fn (.func 206) [] []] [.row (Ay BR M) 255 11] (.tup []) [.row (Ay BR (Ci AE M)) 255 11]:=by
 have henc:=Pz;have k:=Zhf n 0 n [] M [] rfl (by omega) (by omega) hT (by simpa using hn)
 simp only[List.nil_append,List.append_nil]at k;have h1:¬(20:Int)≤(n:Int):=by omega
 have h2:¬(20:Int)<(n:Int):=by omega
 refine Ai [] [] func292 ?_;refine run ?_;refine DR ?_
 refine Aa @h1 ?_;refine AT k ?_;refine run ?_;refine DR ?_
 refine Aa @h2 ?_;exact Ei (F8 henc _ _ _ _)
theorem Zdk(n:Nat)(M:List Fc)(hn:M.length=n)(hl:n<20)(hT:Tot AE M):AC prog 205 [.wr 0 n none,.fn (.func 206) [] []] [.row (Ay BR M) 255 11] (.tup []) [.row (Ay BR (Ci AE M)) 255 11]:=by
 have k:=Zc6 n M hn hl hT;refine Ai [] [] func205 ?_;refine run ?_;refine AT k ?_;refine run ?_;exact Ei (F8 Pz _ _ _ _)
theorem Zjm(it:It.Item)(id:By):AC prog 124 [Ao it,.ptr 0 0] [.cells [.st id]] (.tup [Br it.claim,.it .i64 0,.bo (it.kind==1&&it.claim.actor==id)]) [.cells [.st id]]:=by
 cases hk:(it.kind==1)with
 |false=>
  rw[Bool.false_and];exact Zq it id hk
 |true=>
  rw[Bool.true_and];generalize hb:(it.claim.actor==id)=b at *;refine AC.hw 18 func124 rfl (by decide) (Nat.le_of_ble_eq_true rfl) rfl ?_
  refine HW.seq (HW.aw [] [] (by decide) (by kernel_rfl) ?_)
  refine Al ?_
  refine run ?_;refine HW.seq (HW.spec [] [] [0,1] [7,9,14,15] [] (by decide) (by decide +kernel) (by decide +kernel) ?_)
  refine Al ?_
  repeat (refine g4 (by rfl) ?_;(first|refine BJ ?_|refine a4 ?_);refine runf4 (an @hb @hk) ?_;(first|refine EO ?_|refine C7 ?_))
  refine EB ?_
  refine HW.aw [] [] (by decide) (by kernel_rfl) ?_
  refine Al ?_
  refine run ?_;exact GZ
def Ih(id:By)(it:It.Item):Bool:=it.kind==1&&it.claim.actor==id&&It.right it
def EC(l:List It.Item)(id:By):List Fc:=(l.filter (Ih id)).map fun it=>⟨0,It.digest it,it.claim⟩
def claimsP(l:List It.Item)(id:By):List It.Claim:=(Ci AE (EC l id)).map (·.val)
theorem PN(l:List It.Claim):AH 9 (l.map Br)=true:=BM 9 Br (fun _=>rfl) _
theorem ZfI(ps:List Int)(l:List It.Item)(id:By)(hl:l.length≤1000)(hz:∀x∈l,Iz x)(hf:(EC l id).length<20)(hd:(l.map It.digest).Nodup):
  AC prog 123 [BC ps l,.fn (.func 124) [] [.ptr 0 0]] [.cells [.st id]] (.sl .ro ((claimsP l id).map Br)) [.cells [.st id]]:=by
 have hsz:=GV l;have henc:=Pz;have hT:Tot AE (EC l id):=Qt (by
  unfold EC;rw[List.map_map];exact hd.sublist ((List.filter_sublist).map _))
 have ksort:=Zdk _ (EC l id) rfl hf hT;have hlen:=IV (lt:=AE) (EC l id);have hstep:∀k (h:k<l.length),EC (l.take (k+1)) id=EC (l.take k) id++if Ih id l[k]=true then [⟨0,It.digest l[k],l[k].claim⟩]else []:=fun k h=>by
  unfold EC;rw[List.take_succ_eq_append_getElem h,List.filter_append,List.map_append];congr 1
  simp only[List.filter_cons,List.filter_nil];split<;>rfl
 unfold claimsP;refine Ai [45,14] [] func123 ?_;refine run ?_;refine CG (fun m e S=>e 1=.fn (.func 124) [] [.ptr 0 0]∧e 15=.sl .ro (l.map Ao)∧e 16=.it .i64 (l.length:Int) ∧ ∃(k:Nat) (out:List Fc) (T:Ae),e 17=.it .i64 (k:Int)∧e 5=.wr 2 out.length none∧S=.cells [.st id]::.cells [AB ps,.sl .ro (l.map Ao)]::.row (Ay BR out) 255 11::T∧out=EC (l.take k) id∧k≤l.length∧m=l.length-k) l.length _ _ (Aq.reserveRowT 1 5 (by rfl) 255 (sz:=11) (by decide))
  ⟨Ab,Ab,Ab,0,[],[],Ab,Ab,rfl,rfl,by omega,rfl⟩ ?_
 rintro m e S ⟨s1,s15,s16,k,out,T,s17,s5,rfl,hout,hk,rfl⟩
 have hT1:∀y:SObj,(T++[y])[T.length]? = some y:=fun y=>by simp
 have hT2:∀y z:SObj,(T++[y]).set T.length z=T++[z]:=fun y z=>by simp
 have hT3:∀y z:SObj,(T++[y]++[z])[T.length]? = some y:=fun y z=>by simp
 have hT4:∀y z:SObj,(T++[y]++[z])[T.length+1]? = some z:=fun y z=>by simp
 have hT5:∀y z u:SObj,(T++[y]++[z]).set (T.length+1) u=T++[y]++[u]:=fun y z u=>by simp
 by_cases hlt:k<l.length
 ·have hg:l[k]? = some l[k]:=List.getElem?_eq_getElem hlt
  have hlt':(k:Int)<(l.length:Int):=by omega
  have w1:=Cg (k:=k) (by omega)
  have hst:=hstep k hlt;rw[←hout]at hst;have izk:=hz l[k] (List.getElem_mem hlt);generalize l[k]=it at *;have k1:=Zjm it id;have k2:=F9 it izk;have k3:=Gs it izk;have hF:=FK henc out;have hol:out.length≤1000:=by
   rw[hout];unfold EC;rw[List.length_map];have :=List.length_filter_le (Ih id) (l.take k);rw[List.length_take]at this;omega
  have hfit:Ct (out.length+1) 112=true:=by unfold Ct;simp only[Bool.and_eq_true,decide_eq_true_eq];omega
  refine Aa (F3 @s1 @s15 @s16 @s17 @s5 @hlt' @hg @hsz @hT1 @hT2) ?_;refine cl (xs:=[Ao it]) 0 k1 ?_;unfold Ih at hst;cases hb:(it.kind==1&&it.claim.actor==id)with
  |false=>
   rw[hb,Bool.false_and,if_neg (by decide),List.append_nil]at hst
   refine Aa (an @s1 (AA @s15 @s16 @s17 @s5 @hb @w1 @hT1 @hT2 @hT3 @hT4 @hT5)) ?_;exact As (l.length-(k+1)) (by omega) ⟨Ab,Ab,Ab,k+1,out,_,Ab,Ab,rfl,hst.symm,by omega,rfl⟩
  | true=>
   rw[hb,Bool.true_and]at hst;cases hr:It.right it with
   |false=>
    rw[hr,if_neg (by decide),List.append_nil]at hst
    rw[hr]at k2;refine Aa (an @s1 (AA @s15 @s16 @s17 @s5 @hb @w1 @hT1 @hT2 @hT3 @hT4 @hT5)) ?_;refine cp k2 ?_;refine Aa (an @s1 (AA @s15 @s16 @s17 @s5 @hb @w1 @hT1 @hT2 @hT3 @hT4 @hT5)) ?_;exact As (l.length-(k+1)) (by omega) ⟨Ab,Ab,Ab,k+1,out,_,Ab,Ab,rfl,hst.symm,by omega,rfl⟩
   | true=>
    rw[hr,if_pos rfl]at hst;rw[hr]at k2;generalize It.digest it=d at *;refine Aa (an @s1 (AA @s15 @s16 @s17 @s5 @hb @w1 @hT1 @hT2 @hT3 @hT4 @hT5)) ?_;refine cp k2 ?_;refine Aa (an @s1 (AA @s15 @s16 @s17 @s5 @hb @w1 @hT1 @hT2 @hT3 @hT4 @hT5)) ?_;refine cp k3 ?_;refine Aa (an @s1 (an @s15 (an @s16 (AA @s17 @s5 @hb @w1 @hT1 @hT2 @hT3 @hT4 @hT5 @hF @hfit)))) ?_;have hrow:Ay BR out++Ak [(.agg [.it .i64 0,.st d,.st it.claim.actor,.it .i64 it.claim.base,.st it.claim.prev,.it .i64 it.claim.gen,.it .i64 it.claim.home,.it .i64 it.claim.pub,.it .i64 it.claim.time,.it .i64 it.claim.sig.e,.it .i64 it.claim.sig.s])]=Ay BR (out++[⟨0,d,it.claim⟩]):=by
     rw[MP,OL];rfl
    rw[hrow];exact As (l.length-(k+1)) (by omega) ⟨Ab,Ab,Ab,k+1,out++[⟨0,d,it.claim⟩],_,Ab,by rw[List.length_append];exact Ab,rfl,hst.symm,by omega,rfl⟩
 ·obtain rfl:k=l.length:=by omega
  rw[List.take_length]at hout;subst hout;have hlt':¬(l.length:Int)<(l.length:Int):=by omega
  refine Aa (A6 @s1 @s15 @s16 @s17 @s5 @hlt') ?_;refine Kn 2 ksort ?_ (FJ henc _ _ _ _) (FJ henc _ _ _ _)
  refine Aa (A5 @s1 @s15 @s16 @s17 @s5) ?_;generalize Ci AE (EC l id)=M at *;have hML:M.length<20:=by omega
  rw[←hlen];clear ksort;refine CG (fun m e S=>e 47=.wr 2 M.length none∧e 48=.it .i64 (M.length:Int) ∧ ∃(k:Nat) (T:Ae),e 49=.it .i64 (k:Int)∧e 11=.sl (.own 3) ((M.take k).map fun p=>Br p.val)∧S=.cells [.st id]::.cells [AB ps,.sl .ro (l.map Ao)]::.row (Ay BR M) 255 11::.buf (M.take k).length 43 9::T∧k≤M.length∧m=M.length-k) M.length (Aw (Aw (Aw (Aw (fun _=>.junk) 47 (.wr 2 M.length none)) 48 (.it .i64 (M.length:Int))) 49 (.it .i64 0)) 11 (.sl (.own 3) [])) [.cells [.st id],.cells [AB ps,.sl .ro (l.map Ao)],.row (Ay BR M) 255 11,.buf 0 43 9] ?_
   ⟨Ab,Ab,0,[],Ab,Ab,rfl,by omega,rfl⟩ ?_
  ·refine Aq.sub 1 [0,1,2,T.length+3] (((((HM.nil _ _).cons 47 (.wr 2 M.length none) (.wr 2 M.length none) rfl rfl Ab).cons 48 (.it .i64 (M.length:Int)) _ rfl rfl Ab).cons 49 (.it .i64 0) _ rfl rfl Ab).cons 11 (.sl (.own 3) []) (.sl (.own (T.length+3)) []) rfl rfl Ab) ⟨?_,rfl,fun i o hi=>?_⟩ rfl
   ·simp
   ·match i,hi with
    |0,hi=>cases hi;exact⟨rfl,rfl⟩
    |1,hi=>cases hi;exact⟨rfl,rfl⟩
    |2,hi=>cases hi;exact⟨FJ henc M _ _ 4,by rw[F6 (FJ henc M _ _ 0)];rfl⟩
    |3,hi=>
     cases hi
     refine⟨rfl,?_⟩
     show(T++[SObj.buf 0 43 9])[T.length]? = _
     simp
     rfl
  clear s1 s15 s16 s17 s5 hT1 hT2 hT3 hT4 hT5;rintro m e S ⟨s47,s48,k,T,s49,s11,rfl,hk,rfl⟩
  have hT1:∀y:SObj,(T++[y])[T.length]? = some y:=fun y=>by simp
  have hT2:∀y z:SObj,(T++[y]).set T.length z=T++[z]:=fun y z=>by simp
  have hF:=FK henc M;have hkl:(M.take k).length≤40:=by rw[List.length_take];omega
  by_cases hlt:k<M.length
  ·have hg:M[k]? = some M[k]:=List.getElem?_eq_getElem hlt
   have hlt':(k:Int)<(M.length:Int):=by omega
   have h0:(0:Int)≤(k:Int):=by omega
   have w1:=Cg (k:=k) (by omega)
   have ha:=H6 henc M k _ hg;have hb:k*11+11≤M.length*11:=by omega
   have htk:M.take (k+1)=M.take k++[M[k]]:=List.take_succ_eq_append_getElem hlt;have hsa:AH 9 ((M.take k).map fun p=>Br p.val)=true:=BM 9 (fun p:Fc=>Br p.val) (fun _=>rfl) _
   generalize M[k]=x at *;change((Ay BR M).drop (k*11)).take 11=BW BR x at ha;have hce:AV.agg (BW BR x)=.agg [.it .i64 x.rank,.st x.dig,.st x.val.actor,.it .i64 x.val.base,.st x.val.prev,.it .i64 x.val.gen,.it .i64 x.val.home,.it .i64 x.val.pub,.it .i64 x.val.time,.it .i64 x.val.sig.e,.it .i64 x.val.sig.s]:=rfl;have hap:(if k*11=0∧11=M.length*11 then some (AV.agg (Ay BR M))else some (.agg (BW BR x)))=some (.agg [.it .i64 x.rank,.st x.dig,.st x.val.actor,.it .i64 x.val.base,.st x.val.prev,.it .i64 x.val.gen,.it .i64 x.val.home,.it .i64 x.val.pub,.it .i64 x.val.time,.it .i64 x.val.sig.e,.it .i64 x.val.sig.s]):=by
    rw[←hce];split
    ·rename_i hc
     rw[←ha,hc.1,List.drop_zero,List.take_of_length_le (by omega)]
    ·rfl
   clear hce;refine Aa (an @s47 (an @s48 (an @s49 (an @s11 (AA @hlt' @h0 @hg @ha @hF @hb @hap @hT1 @hT2 @hsa @w1))))) ?_;exact As (M.length-(k+1)) (by omega) ⟨Ab,Ab,k+1,_,Ab,by rw[htk,List.map_append];exact Ab,by rw[htk,List.length_append];rfl,by omega,rfl⟩
  ·obtain rfl:k=M.length:=by omega
   have hlt':¬(M.length:Int)<(M.length:Int):=by omega
   rw[List.take_length]at s11;refine Aa (A5 @s47 @s48 @s49 @s11 @hlt') ?_;exact SV (hv:=by
    show AV.sl .ro (M.map fun p=>Br p.val)=AV.sl .ro ((M.map (·.val)).map Br)
    rw[List.map_map];rfl)
theorem Zjk(ps:List Int)(l:List It.Item)(id:By)(hl:l.length≤1000)(hz:∀x∈l,Iz x)(hf:(EC l id).length<20)(hd:(l.map It.digest).Nodup):
  AC prog 56 [BC ps l,.st id] [] (.sl .ro ((claimsP l id).map Br)) []:=by
 have k:=ZfI ps l id hl hz hf hd;refine Ai [] [] func56 ?_;refine run ?_;refine Tr 1 k ?_;refine run ?_;exact AQ
end Pe
end
end Go.Proofs.YtchpmmjmimaigaaGreatDoor
