import Derived.Test.YtchpmmjmimaigaaGreatDoorKh23
import Derived.Test.YtchpmmjmimaigaaGreatDoorKh24
set_option linter.unusedSectionVars false
set_option linter.unusedVariables false
set_option linter.unusedSimpArgs false
namespace Go.Proofs.YtchpmmjmimaigaaGreatDoor
section
namespace Pe
open Tryz
open Go Go.RowKit Co Sg Ac It Sl Tp
set_option maxRecDepth 100000
set_option maxHeartbeats 4000000
abbrev Kj(c:Chn):List AV:=[.st c.id,Dl c.acts,.sl .ro (c.keys.map Cr),.st c.prev,.it .i64 c.gen,.bo c.fork]
theorem ZfZ{l:List Ac.Act}{id:By}(h:(CY (BY l id) id).length≠1):Fq l id=⟨id,[],[],[],0,decide (1<(CY (BY l id) id).length)⟩:=by
 unfold Fq;generalize CY (BY l id) id=B at *;match B,h with
 |[],_=>rfl
 |[a],h=>exact absurd rfl h
 |a::b::t,_=>rw[decide_eq_true (by simp)]
theorem ZfY{l:List Ac.Act}{id:By}{a:Ac.Act}(h:CY (BY l id) id=[a]):Fq l id=EQ (l.length+1) (BY l id) (Bi ⟨id,[],[],[],0,false⟩ a):=by
 unfold Fq;rw[h]
theorem ZhD{n:Nat}{l:List Ac.Act}{c:Chn}(h:(BD l c).length≠1):EQ (n+1) l c={ c with fork:=decide (1<(BD l c).length) }:=by
 unfold EQ;generalize BD l c=B at *;match B,h with
 |[],_=>rfl
 |[a],h=>exact absurd rfl h
 |a::b::t,_=>rw[decide_eq_true (by simp)]
theorem ZhC{n:Nat}{l:List Ac.Act}{c:Chn}{a:Ac.Act}(h:BD l c=[a]):EQ (n+1) l c=EQ n l (Bi c a):=by
 rw[EQ,h]
theorem Wp{α:Type}{B:List α}(h:B.length=1):∃a,B=[a]:=List.length_eq_one_iff.1 h
theorem Zjf(ps:List Int)(l:List Ac.Act)(id:By)(hl:l.length≤100)(hr:KA l):AC prog 75 [Ie ps l,.st id] [] (AN (Fq l id)) []:=by
 have hal:=Zkw l id;have hrL:KA (BY l id):=fun a ha=>hr a (Zkv ha)
 have k1:=Zg1 ps l id (by omega) hr
 have k2:=ZjE (BY l id) id (by omega) hrL
 have hszB:=D6 (CY (BY l id) id);have hon:=fun a (h:CY (BY l id) id=[a])=>ZfY h
 have hBm:∀a,CY (BY l id) id=[a]→a∈BY l id∧a.kind=0:=fun a h=>ZjZ (by rw[h];simp)
 by_cases hB:(CY (BY l id) id).length=1
 rotate_left
 ·have hn:=ZfZ hB
  have q1:(((CY (BY l id) id).length:Int) !=1)=true:=Fw (by omega)
  have q2:decide (((CY (BY l id) id).length:Int)>1)=decide (1<(CY (BY l id) id).length):=by rw[decide_eq_decide];omega
  rw[hn];generalize CY (BY l id) id=B at *;generalize BY l id=L at *;refine Ai [143,144,145,146,147] [] func75 ?_;refine run ?_;refine cp k1 ?_;refine run ?_;refine cp k2 ?_;refine Aa (an @q1 @q2) ?_;exact AQ
 obtain⟨b,hb⟩:=Wp hB;have hon:=hon b hb;obtain⟨hbm,hbk⟩:=hBm b hb;have hbr:=hrL b hbm;have q1:(((CY (BY l id) id).length:Int) !=1)=false:=Gw (by omega)
 have hg0:(CY (BY l id) id)[0]? = some b:=by rw[hb];rfl
 have hB0:(0:Int)<((CY (BY l id) id).length:Int):=by omega
 have k3:=ZE ⟨id,[],[],[],0,false⟩ b (by simp) (by simp) hbr
 have hok0:=Zaj (Zje id false) hbr fun _=>hbk
 have hac0:(Bi ⟨id,[],[],[],0,false⟩ b).acts≠[]:=by simp[Bi]
 rw[hon];generalize CY (BY l id) id=B at *;generalize BY l id=L at *;generalize Bi ⟨id,[],[],[],0,false⟩ b=c0 at *;refine Ai [143,144,145,146,147] [] func75 ?_;refine run ?_;refine cp k1 ?_;refine run ?_;refine cp k2 ?_;refine Aa (A4 @q1 @hg0 @hszB @hB0) ?_;refine cp k3 ?_;refine run ?_;refine Bn (fun m e S=>e 2=.ptr 0 0∧e 4=.ptr 1 0∧e 5=.ptr 2 0∧e 6=Dl L ∧ ∃(i:Nat) (c:Chn) (T:Ae),e 8=.it .i64 (i:Int)∧S=.cells [AB ps,.sl .ro (l.map AL)]::.cells [.st [],.sl .full [],.sl .full [],.st [],.it .i64 0,.bo false]::.cells (Kj c)::T∧EQ (l.length+1) L c0=EQ (l.length+1-i) L c∧COk c (i+1)∧c.acts≠[]∧i≤l.length+1∧m=l.length+1-i) (l.length+1) ⟨Ab,Ab,Ab,Ab,0,c0,[],Ab,rfl,rfl,hok0,hac0,by omega,rfl⟩ ?_
 rintro m e S ⟨s2,s4,s5,s6,i,c,T,s8,rfl,hgr,hok,hac,hi,rfl⟩
 rw[GJ s4];rw[hgr];have hcl:=hok.len;have hck:=hok.klen;by_cases hlt:i≤l.length
 ·have hlt':(i:Int)≤(l.length:Int):=by omega
  have w1:=Cg (k:=i) (by omega)
  have hm1:l.length+1-i=(l.length-i)+1:=by omega
  have kc:=ZjB ps l c (by omega) (by omega)
  have kd:=ZjC L c (i+1) (by omega) hrL hok (by omega) (hok.key hac)
  have hszD:=D6 (BD L c);have hT1:∀y:SObj,(T++[y])[T.length]? = some y:=fun y=>by simp
  have hT2:∀y z:SObj,(T++[y]).set T.length z=T++[z]:=fun y z=>by simp
  by_cases hD:(BD L c).length=1
  ·obtain⟨d,hd⟩:=Wp hD
   have hdm:d∈BD L c:=by rw[hd];simp
   obtain⟨hd1,hd2⟩:=ZhW (ZjF hdm).2;have q1:(((BD L c).length:Int) !=1)=false:=Gw (by omega)
   have hgd:(BD L c)[0]? = some d:=by rw[hd];rfl
   have hD0:(0:Int)<((BD L c).length:Int):=by omega
   have ka:=ZE c d (by omega) (by omega) hd1
   have hok':=Zaj hok hd1 hd2;have hac':(Bi c d).acts≠[]:=by simp[Bi]
   have hg1:EQ (l.length+1-i) L c=EQ (l.length+1-(i+1)) L (Bi c d):=by
    rw[hm1,ZhC hd];congr 1
    omega
   rw[hg1]at hgr ⊢;generalize Bi c d=c' at *;generalize BD L c=D at *;refine Aa (A6 @s2 @s4 @s5 @s6 @s8 @hlt') ?_;refine cp kc ?_;refine Aa (A7 @s2 @s4 @s5 @s6 @s8 @hT1 @hT2) ?_;refine cp kd ?_;refine Aa (A9 @s2 @s4 @s5 @s6 @s8 @q1 @hgd @hszD @hD0) ?_;refine cp ka ?_;refine Aa (A6 @s2 @s4 @s5 @s6 @s8 @w1) ?_;exact As (l.length+1-(i+1)) (by omega) ⟨Ab,Ab,Ab,Ab,i+1,c',_,Ab,rfl,rfl,hok',hac',by omega,rfl⟩
  ·have q1:(((BD L c).length:Int) !=1)=true:=Fw (by omega)
   have q2:decide (((BD L c).length:Int)>1)=decide (1<(BD L c).length):=by rw[decide_eq_decide];omega
   have hg1:EQ (l.length+1-i) L c={ c with fork:=decide (1<(BD L c).length) }:=by
    rw[hm1,ZhD hD]
   rw[hg1];generalize BD L c=D at *;refine Aa (A6 @s2 @s4 @s5 @s6 @s8 @hlt') ?_;refine cp kc ?_;refine Aa (A7 @s2 @s4 @s5 @s6 @s8 @hT1 @hT2) ?_;refine cp kd ?_;refine Aa (A7 @s2 @s4 @s5 @s6 @s8 @q1 @q2) ?_;exact Ad
 ·obtain rfl:i=l.length+1:=by omega
  have hlt':¬((l.length+1:Nat):Int)≤(l.length:Int):=by omega
  have hg1:EQ (l.length+1-(l.length+1)) L c=c:=by rw[Nat.sub_self];rfl
  rw[hg1];refine Aa (A6 @s2 @s4 @s5 @s6 @s8 @hlt') ?_;exact Ad
end Pe
end
section
namespace Pe
open Tryz
open Go Go.RowKit Co Sg Ac It Sl Tp
set_option maxRecDepth 100000
set_option maxHeartbeats 4000000
theorem Eb(a:Ac.Act):AC prog 27 [Am a] [] (AL a) []:=by
 refine Ai [] [] func27 ?_;refine run ?_;exact AQ
end Pe
end
section
namespace Pe
open Tryz
open Go Go.RowKit Co Sg Ac It Sl Tp
set_option maxRecDepth 100000
set_option maxHeartbeats 4000000
abbrev KM(w:Wish):AV:=.agg [.it .i64 w.who,.it .i64 w.kind,.it .i64 w.on,.it .i64 w.whom,.st w.txt,.it .i64 w.spoil]
abbrev Db(n:Int):Prop:=-9223372036854775808≤n∧n≤9223372036854775807
structure Wz(w:Wish):Prop where
 who:Db w.who
 kind:Db w.kind
 on:Db w.on
 whom:Db w.whom
 txt:w.txt.length≤200
 spoil:Db w.spoil
theorem Zhs(n:Int):(Ds n).length≤16:=by
 unfold Ds;rw[List.length_take];omega
def begin0(who me time:Int):Ac.Act:={ act0 with author:=DW who,kind:=0,time:=time,text:=[97,99,116,111,114]++E4 (AM who 4).toNat,n:=(Bv who 0).pub,m:=me }
theorem Zj0(who me time:Int):Sz (begin0 who me time):=by
 have h1:=Zhs (Bv who 0).pub;have h2:=PH (AM who 4).toNat;refine⟨?_,by show(0:Nat)≤_;omega,by show(0:Nat)≤_;omega,?_,(fun s hs=>nomatch hs),by show(0:Nat)≤_;omega,by show(0:Nat)≤_;omega⟩
 ·show(Ds _).length≤_
  omega
 ·show([97,99,116,111,114]++E4 (AM who 4).toNat).length≤_
  rw[List.length_append];simp only[List.length_cons,List.length_nil];omega
theorem PZ(who me time:Int)(h:Db who):AC prog 21 [.it .i64 who,.it .i64 me,.it .i64 time] [] (Am (Gx who me time)) []:=by
 have hp:=FN who (m:=4) (by decide)
 have k1:=L1 who 0 h (by decide)
 have k2:=P2 who h;have k3:=Gd who 4 h (by decide)
 have k4:=Qv (AM who 4).toNat (by omega)
 rw[show(((AM who 4).toNat:Nat):Int)=AM who 4 by omega]at k4
 have hi:=ZaJ who 0;have hd:=PH (AM who 4).toNat;have k5:=X0 (Bv who 0) (begin0 who me time) (Zj0 who me time) (by show(0:Nat)≤_;omega) (by show(0:Nat)≤_;omega) (by omega)
 have eV:Am (begin0 who me time)=.agg [.st (DW who),.it .i64 0,.st [],.it .i64 0,.it .i64 time,.st [],.st [],.it .i64 0,.st [],.sl .ro [],.st ([97,99,116,111,114]++E4 (AM who 4).toNat),.st [],.st [],.st [],.it .i64 0,.sl .ro [],.it .i64 (Bv who 0).pub,.it .i64 me,.it .i64 0,.it .i64 0]:=rfl;rw[eV]at k5;change AC _ _ _ _ (Am (Gx who me time)) _ at k5;generalize Gx who me time=B at *;clear eV;generalize E4 (AM who 4).toNat=x at *;generalize AM who 4=p at *;generalize DW who=id at *;generalize Bv who 0=k at *;refine Ai [11,7,10,47,57] [] func21 ?_;refine run ?_;refine cp k1 ?_;refine run ?_;refine cp k2 ?_;refine run ?_;refine cp k3 ?_;refine run ?_;refine cp k4 ?_;refine run ?_;refine cp k5 ?_;refine run ?_;exact AQ
theorem Zgl(c:Chn)(hl:c.keys.length≤1000)(h0:c.keys≠[]):AC prog 76 [AN c] [] (.it .i64 ((c.keys.length-1:Nat):Int)) []:=by
 have hkl:0<c.keys.length:=List.length_pos_iff.2 h0;have w0:IntKind.i64.wrap ((c.keys.length:Int)-1)=((c.keys.length-1:Nat):Int):=by rw[wrap64 (by omega) (by omega)];omega
 refine Ai [] [] func76 ?_;refine Aa @w0 ?_;exact Ad
end Pe
end
section
namespace Pe
open Tryz
open Go Go.RowKit Co Sg Ac It Sl Tp Ho
set_option maxRecDepth 100000
set_option maxHeartbeats 8000000
abbrev H3(ps:List Int)(items:List AV):AV:=.agg [AB ps,.sl .ro items]
structure SetupK(ps:List Int)(i0 i1 i2:By)(k0 k1 k2 r:Key)(b0 b1 b2 x p1 p2:Ac.Act)(S0 S1:Share)(q1 q2:Int)(c0 c1 c2:Chn)(I0 I1 I2 I3:List AV):Prop where
 begin0:AC prog 21 [.it .i64 0,.it .i64 0,.it .i64 0] [] (Am b0) []
 begin1:AC prog 21 [.it .i64 1,.it .i64 0,.it .i64 0] [] (Am b1) []
 begin2:AC prog 21 [.it .i64 2,.it .i64 0,.it .i64 0] [] (Am b2) []
 set0:AC prog 6 [.sl .ro [AL b0,AL b1,AL b2]] [] (H3 ps I0) []
 set1:AC prog 6 [.sl .ro [AL b0,AL b1,AL b2,AL x]] [] (H3 ps I1) []
 set2:AC prog 6 [.sl .ro [AL b0,AL b1,AL b2,AL x,AL p1]] [] (H3 ps I2) []
 set3:AC prog 6 [.sl .ro [AL b0,AL b1,AL b2,AL x,AL p1,AL p2]] [] (H3 ps I3) []
 act0:AC prog 7 [.it .i64 0] [] (.st i0) []
 act1:AC prog 7 [.it .i64 1] [] (.st i1) []
 act2:AC prog 7 [.it .i64 2] [] (.st i2) []
 less:(Op.bytesLess i1 i2||i1==i2)=true
 of0:AC prog 8 [H3 ps I0,.st i0] [] (AN c0) []
 of1:AC prog 8 [H3 ps I0,.st i1] [] (AN c1) []
 of2:AC prog 8 [H3 ps I0,.st i2] [] (AN c2) []
 keys1:c1.keys=[⟨0,q1,0⟩]
 keys2:c2.keys=[⟨0,q2,0⟩]
 key0:AC prog 11 [.it .i64 0,.it .i64 0] [] (Bx k0) []
 key1:AC prog 11 [.it .i64 1,.it .i64 0] [] (Bx k1) []
 key2:AC prog 11 [.it .i64 2,.it .i64 0] [] (Bx k2) []
 setup:AC prog 28 [Bx k0,AN c0,.sl .ro [.st i1,.st i2],.sl .ro [.it .i64 q1,.it .i64 q2],.it .i64 2,.it .i64 1] [] (.tup [Am x,.it .i64 0]) []
 make1:AC prog 29 [H3 ps I1,.it .i64 0,.it .i64 2,KM ⟨0,0,0,0,[112],9⟩] [] (Am p1) []
 make2:AC prog 29 [H3 ps I2,.it .i64 0,.it .i64 3,KM ⟨0,0,0,0,[112],9⟩] [] (Am p2) []
 part1:AC prog 30 [.it .i64 k1.secret,Am x,.it .i64 0] [] (.tup [Bm S0,.bo true]) []
 part2:AC prog 30 [.it .i64 k2.secret,Am x,.it .i64 1] [] (.tup [Bm S1,.bo true]) []
 rkey:AC prog 31 [Am x,.sl .ro [Bm S0,Bm S1]] [] (.tup [Bx r,.bo true]) []
theorem ZdQ{ps:List Int}{i0 i1 i2:By}{k0 k1 k2 r:Key}{b0 b1 b2 x p1 p2:Ac.Act}{S0 S1:Share}{q1 q2:Int}{c0 c1 c2:Chn}{I0 I1 I2 I3:List AV}(K:SetupK ps i0 i1 i2 k0 k1 k2 r b0 b1 b2 x p1 p2 S0 S1 q1 q2 c0 c1 c2 I0 I1 I2 I3)
  (n:Int)(hn:-9223372036854775808≤n∧n≤9223372036854775807)(hm:AM n 3=2):
  AC prog 5 [.it .i64 n] [] (.tup [.sl (.own 0) [AL b0,AL b1,AL b2,AL x,AL p1,AL p2],Bx r]) [.buf 6 61 49]:=by
 have kpk:=Gd n 3 hn (by omega)
 rw[hm]at kpk;have o0:=Eb b0;have o1:=Eb b1;have o2:=Eb b2;have ox:=Eb x;have op1:=Eb p1;have op2:=Eb p2;obtain⟨K1,K2,K3,K4,K5,K6,K7,K8,K9,K10,K11,K12,K13,K14,hk1,hk2,K15,K16,K17,K18,K19,K20,K21,K22,K23⟩:=K;obtain⟨d1,a1,ks1,v1,g1,f1⟩:=c1;obtain⟨d2,a2,ks2,v2,g2,f2⟩:=c2;simp only at hk1 hk2
 subst hk1 hk2;have hne:(i1==i1)=true:=by simp
 refine Ai [21,27,6,7,8,11,28,10,29,30,31] [] func5 ?_;refine run ?_;refine Dr 3 fun R hR=>?_
 refine run ?_;refine cp K1 ?_;refine run ?_;refine cp o0 ?_;refine run ?_;refine hR _ _ _ ?_
 refine run ?_;refine cp K2 ?_;refine run ?_;refine cp o1 ?_;refine run ?_;refine hR _ _ _ ?_
 refine run ?_;refine cp K3 ?_;refine run ?_;refine cp o2 ?_;refine run ?_;refine hR _ _ _ ?_
 clear hR;refine run ?_;refine cp K4 ?_;refine Aa @K11 ?_;refine cp K9 ?_;refine Aa @K11 ?_;refine cp K10 ?_;refine Aa @K11 ?_;refine Dr 2 fun R hR=>?_
 refine run ?_;refine cp K13 ?_;refine Aa @K11 ?_;refine hR _ _ _ ?_
 refine run ?_;refine cp K14 ?_;refine Aa @K11 ?_;refine hR _ _ _ ?_
 clear hR;refine run ?_;refine cp K15 ?_;refine Aa @K11 ?_;refine cp K8 ?_;refine Aa @K11 ?_;refine cp K12 ?_;refine Aa @K11 ?_;refine cp K18 ?_;refine Aa @K11 ?_;refine cp ox ?_;refine Aa @K11 ?_;refine cp K5 ?_;refine Aa @K11 ?_;refine Dr 2 fun R hR=>?_
 refine run ?_;refine cp kpk ?_;refine Aa @K11 ?_;refine cp K19 ?_;refine Aa @K11 ?_;refine cp op1 ?_;refine Aa @K11 ?_;refine cp K6 ?_;refine Aa @K11 ?_;refine hR _ _ _ ?_
 refine run ?_;refine cp kpk ?_;refine Aa @K11 ?_;refine cp K20 ?_;refine Aa @K11 ?_;refine cp op2 ?_;refine Aa @K11 ?_;refine cp K7 ?_;refine Aa @K11 ?_;refine hR _ _ _ ?_
 clear hR;refine run ?_;refine cp kpk ?_;refine Aa @K11 ?_;refine cp K9 ?_;refine Aa @K11 ?_;refine cp K16 ?_;refine Aa @K11 ?_;refine cp K21 ?_;refine Aa @K11 ?_;refine cp K17 ?_;refine Aa @K11 ?_;refine cp K22 ?_;refine Aa @K11 ?_;refine cp K23 ?_;refine Aa @K11 ?_;exact Nu [1] (by rfl) (IU 1 (by rfl) (by rfl)) (by rfl) (by rfl) (by rfl)
end Pe
end
section
namespace Pe
open Tryz
open Go Go.RowKit Co Sg Ac It Sl Tp Ho
set_option maxRecDepth 100000
set_option maxHeartbeats 8000000
theorem ZdS{ps:List Int}{i0 i1 i2:By}{k0 k1 k2 r:Key}{b0 b1 b2 x p1 p2:Ac.Act}{S0 S1:Share}{q1 q2:Int}{c0 c1 c2:Chn}{I0 I1 I2 I3:List AV}(K:SetupK ps i0 i1 i2 k0 k1 k2 r b0 b1 b2 x p1 p2 S0 S1 q1 q2 c0 c1 c2 I0 I1 I2 I3)
  (n:Int)(hn:-9223372036854775808≤n∧n≤9223372036854775807)(hm:AM n 3=0):
  AC prog 5 [.it .i64 n] [] (.tup [.sl (.own 0) [AL b0,AL b1,AL b2,AL x],Bx r]) [.buf 4 61 49]:=by
 have kpk:=Gd n 3 hn (by omega)
 rw[hm]at kpk;have o0:=Eb b0;have o1:=Eb b1;have o2:=Eb b2;have ox:=Eb x;have op1:=Eb p1;have op2:=Eb p2;obtain⟨K1,K2,K3,K4,K5,K6,K7,K8,K9,K10,K11,K12,K13,K14,hk1,hk2,K15,K16,K17,K18,K19,K20,K21,K22,K23⟩:=K;obtain⟨d1,a1,ks1,v1,g1,f1⟩:=c1;obtain⟨d2,a2,ks2,v2,g2,f2⟩:=c2;simp only at hk1 hk2
 subst hk1 hk2;have hne:(i1==i1)=true:=by simp
 refine Ai [21,27,6,7,8,11,28,10,29,30,31] [] func5 ?_;refine run ?_;refine Dr 3 fun R hR=>?_
 refine run ?_;refine cp K1 ?_;refine run ?_;refine cp o0 ?_;refine run ?_;refine hR _ _ _ ?_
 refine run ?_;refine cp K2 ?_;refine run ?_;refine cp o1 ?_;refine run ?_;refine hR _ _ _ ?_
 refine run ?_;refine cp K3 ?_;refine run ?_;refine cp o2 ?_;refine run ?_;refine hR _ _ _ ?_
 clear hR;refine run ?_;refine cp K4 ?_;refine Aa @K11 ?_;refine cp K9 ?_;refine Aa @K11 ?_;refine cp K10 ?_;refine Aa @K11 ?_;refine Dr 2 fun R hR=>?_
 refine run ?_;refine cp K13 ?_;refine Aa @K11 ?_;refine hR _ _ _ ?_
 refine run ?_;refine cp K14 ?_;refine Aa @K11 ?_;refine hR _ _ _ ?_
 clear hR;refine run ?_;refine cp K15 ?_;refine Aa @K11 ?_;refine cp K8 ?_;refine Aa @K11 ?_;refine cp K12 ?_;refine Aa @K11 ?_;refine cp K18 ?_;refine Aa @K11 ?_;refine cp ox ?_;refine Aa @K11 ?_;refine cp K5 ?_;refine Aa @K11 ?_;refine Dr 0 fun R hR=>?_
 clear hR;refine run ?_;refine cp kpk ?_;refine Aa @K11 ?_;refine cp K9 ?_;refine Aa @K11 ?_;refine cp K16 ?_;refine Aa @K11 ?_;refine cp K21 ?_;refine Aa @K11 ?_;refine cp K17 ?_;refine Aa @K11 ?_;refine cp K22 ?_;refine Aa @K11 ?_;refine cp K23 ?_;refine Aa @K11 ?_;exact Nu [1] (by rfl) (IU 1 (by rfl) (by rfl)) (by rfl) (by rfl) (by rfl)
theorem ZdR{ps:List Int}{i0 i1 i2:By}{k0 k1 k2 r:Key}{b0 b1 b2 x p1 p2:Ac.Act}{S0 S1:Share}{q1 q2:Int}{c0 c1 c2:Chn}{I0 I1 I2 I3:List AV}(K:SetupK ps i0 i1 i2 k0 k1 k2 r b0 b1 b2 x p1 p2 S0 S1 q1 q2 c0 c1 c2 I0 I1 I2 I3)
  (n:Int)(hn:-9223372036854775808≤n∧n≤9223372036854775807)(hm:AM n 3=1):
  AC prog 5 [.it .i64 n] [] (.tup [.sl (.own 0) [AL b0,AL b1,AL b2,AL x,AL p1],Bx r]) [.buf 5 61 49]:=by
 have kpk:=Gd n 3 hn (by omega)
 rw[hm]at kpk;have o0:=Eb b0;have o1:=Eb b1;have o2:=Eb b2;have ox:=Eb x;have op1:=Eb p1;have op2:=Eb p2;obtain⟨K1,K2,K3,K4,K5,K6,K7,K8,K9,K10,K11,K12,K13,K14,hk1,hk2,K15,K16,K17,K18,K19,K20,K21,K22,K23⟩:=K;obtain⟨d1,a1,ks1,v1,g1,f1⟩:=c1;obtain⟨d2,a2,ks2,v2,g2,f2⟩:=c2;simp only at hk1 hk2
 subst hk1 hk2;have hne:(i1==i1)=true:=by simp
 refine Ai [21,27,6,7,8,11,28,10,29,30,31] [] func5 ?_;refine run ?_;refine Dr 3 fun R hR=>?_
 refine run ?_;refine cp K1 ?_;refine run ?_;refine cp o0 ?_;refine run ?_;refine hR _ _ _ ?_
 refine run ?_;refine cp K2 ?_;refine run ?_;refine cp o1 ?_;refine run ?_;refine hR _ _ _ ?_
 refine run ?_;refine cp K3 ?_;refine run ?_;refine cp o2 ?_;refine run ?_;refine hR _ _ _ ?_
 clear hR;refine run ?_;refine cp K4 ?_;refine Aa @K11 ?_;refine cp K9 ?_;refine Aa @K11 ?_;refine cp K10 ?_;refine Aa @K11 ?_;refine Dr 2 fun R hR=>?_
 refine run ?_;refine cp K13 ?_;refine Aa @K11 ?_;refine hR _ _ _ ?_
 refine run ?_;refine cp K14 ?_;refine Aa @K11 ?_;refine hR _ _ _ ?_
 clear hR;refine run ?_;refine cp K15 ?_;refine Aa @K11 ?_;refine cp K8 ?_;refine Aa @K11 ?_;refine cp K12 ?_;refine Aa @K11 ?_;refine cp K18 ?_;refine Aa @K11 ?_;refine cp ox ?_;refine Aa @K11 ?_;refine cp K5 ?_;refine Aa @K11 ?_;refine Dr 1 fun R hR=>?_
 refine run ?_;refine cp kpk ?_;refine Aa @K11 ?_;refine cp K19 ?_;refine Aa @K11 ?_;refine cp op1 ?_;refine Aa @K11 ?_;refine cp K6 ?_;refine Aa @K11 ?_;refine hR _ _ _ ?_
 clear hR;refine run ?_;refine cp kpk ?_;refine Aa @K11 ?_;refine cp K9 ?_;refine Aa @K11 ?_;refine cp K16 ?_;refine Aa @K11 ?_;refine cp K21 ?_;refine Aa @K11 ?_;refine cp K17 ?_;refine Aa @K11 ?_;refine cp K22 ?_;refine Aa @K11 ?_;refine cp K23 ?_;refine Aa @K11 ?_;exact Nu [1] (by rfl) (IU 1 (by rfl) (by rfl)) (by rfl) (by rfl) (by rfl)
end Pe
end
section
namespace Tp
open Tryz
open Go Co Sg Ac It
set_option maxRecDepth 100000
theorem Zlv(k:Key)(d:Ac.Act):Er k d=act0∨Er k d={ d with sig:=Do k (Bq { d with sig:=A0 }) }:=by
 unfold Er;simp only
 split
 ·exact .inr rfl
 ·exact .inl rfl
structure Like(a d:Ac.Act):Prop where
 kind:a.kind=d.kind
 object:a.object=d.object
 target:a.target=d.target
 scope:a.scope=d.scope
 group:a.group=d.group
 to:a.to=d.to
 body:a.body=d.body
 epoch:a.epoch=d.epoch
 wraps:a.wraps=d.wraps
 n:a.n=d.n
 m:a.m=d.m
theorem Zml(k:List Ac.Act)(me time:Int)(w:Wish):Like (LU k me time w) (O9 k me time w):=by
 unfold LU;simp only
 repeat' split
 all_goals exact⟨rfl,rfl,rfl,rfl,rfl,rfl,rfl,rfl,rfl,rfl,rfl⟩
theorem Zmm(k:List Ac.Act)(me time:Int)(w:Wish):(LU k me time w).author=(O9 k me time w).author∨(LU k me time w).author=DW (IntKind.i64.wrap (w.who+1))∧(LU k me time w).prev=(O9 k me time w).prev:=by
 unfold LU;simp only
 repeat' split
 all_goals first|exact .inl rfl|exact .inr ⟨rfl,rfl⟩
def nk(out:List Ac.Act)(id:By):Nat:=(AF id (Bz out id)).keys.length
structure Cont(out:List Ac.Act)(C:Chn)(a:Ac.Act):Prop where
 text:a.kind=1∨a.kind=2∨a.kind=3∨a.kind=14→a.scope=0∨(a.scope=1∧a.group=[]∧X2 C C.acts.length=false∧a.epoch=(HF C C.acts.length).1)
 grant:a.kind=16→a.scope=1∧a.group=[]∧a.to=M4 C C.acts.length∧a.epoch=(if(HF C C.acts.length).2.2=true then(HF C C.acts.length).1+1 else(HF C C.acts.length).1) ∧
  a.wraps.length=a.to.length ∧ ∀(i:Nat) t w,a.to[i]? = some t→a.wraps[i]? = some w → ∃who j,t=DW who∧w.to=(Bv who j).pub∧j<nk out t
 accept:a.kind=8 → ∃who,a.target=DW who
def Zk5(out:List Ac.Act):Prop:=∀id,Bz out id≠[] → ∃who,id=DW who ∧ ∀(j:Nat) k,(AF id (Bz out id)).keys[j]? = some k→k.pub=(Bv who j).pub
theorem ZmB(k:List Ac.Act)(c:Chn)(w:Wish)(a:Ac.Act):(Me k c w a).author=a.author∧(Me k c w a).prev=a.prev∧(Me k c w a).kind=a.kind∧(Me k c w a).scope=a.scope:=by
 unfold Me;repeat' split
 all_goals exact⟨rfl,rfl,rfl,rfl⟩
theorem Zak(c:Chn)(a:Ac.Act):(Bi c a).keys=if a.kind=18∨a.kind=0 then c.keys++[⟨if a.kind=0 then 0 else((c.acts.length+1:Nat):Int),a.n,a.m⟩]else c.keys:=rfl
def Zk7(out:List Ac.Act):Prop:=∀(id:By) (n:Nat) a,(Bz out id)[n]? = some a→Cont out (AF id ((Bz out id).take n)) a
structure Grown(k out:List Ac.Act):Prop where
 inv:Inv k out
 keys:Zk5 out
 conts:Zk7 out
end Tp
end
section
namespace Tp
open Tryz
open Go Co Sg Ac It
set_option maxRecDepth 100000
theorem ZS:∀x:By,Op.bytesLess x x=false
 |[]=>rfl
 |a::x=>by
  rw[Op.bytesLess,ZS x]
  have:¬a<a:=by rw[UInt8.lt_iff_toNat_lt];omega
  simp[this]
theorem TF:∀{x y z:By},Op.bytesLess x y=true→Op.bytesLess y z=true→Op.bytesLess x z=true
 |_,[],_,h,_=>by simp[Op.bytesLess]at h
 |_,_::_,[],_,h=>by simp[Op.bytesLess]at h
 |[],_::_,_::_,_,_=>rfl
 |a::x,b::y,c::z,h1,h2=>by
  have ih:=@TF x y z;simp only[Op.bytesLess,Bool.or_eq_true,Bool.and_eq_true,decide_eq_true_eq,beq_iff_eq]at h1 h2 ⊢;rw[UInt8.lt_iff_toNat_lt]at *;rcases h1 with h1|⟨h1,h1'⟩<;>rcases h2 with h2|⟨h2,h2'⟩
  ·exact .inl (by omega)
  ·subst h2;exact .inl h1
  ·subst h1;exact .inl h2
  ·subst h1 h2;exact .inr ⟨rfl,ih h1' h2'⟩
theorem TE:∀(x y:By),Op.bytesLess x y=false→x=y∨Op.bytesLess y x=true
 |[],[],_=>.inl rfl
 |_::_,[],_=>.inr rfl
 |[],_::_,h=>by simp[Op.bytesLess]at h
 | a::x,b::y,h=>by
  have ih:=TE x y;simp only[Op.bytesLess,Bool.or_eq_false_iff,Bool.and_eq_false_iff,decide_eq_false_iff_not,beq_eq_false_iff_ne]at h;simp only[Op.bytesLess,Bool.or_eq_true,Bool.and_eq_true,decide_eq_true_eq,beq_iff_eq];by_cases e:a=b
  ·subst e
   rcases h.2 with h2|h2
   ·exact absurd rfl h2
   ·rcases ih h2 with h3|h3
    ·subst h3;exact .inl rfl
    ·exact .inr (.inr ⟨rfl,h3⟩)
  ·refine .inr (.inl ?_)
   have h1:=h.1;rw[UInt8.lt_iff_toNat_lt]at *
   have:a.toNat≠b.toNat:=fun h=>e (UInt8.toNat_inj.1 h)
   omega
abbrev P6(l:List By):Prop:=l.Pairwise fun a b=>Op.bytesLess a b=true
structure TAsc(t:Ties):Prop where
 follows:P6 t.follows
 accepts:P6 t.accepts
 blocks:P6 t.blocks
 mutes:P6 t.mutes
end Tp
end
section
namespace Tp
open Tryz
open Go Co Sg Ac It
set_option maxRecDepth 100000
def MV:List (List Int):=[
[2257756017442593482,687204938868514567,1112704474281048068,240304489170244657,2294001460427812877,1515223500666065565,1822716087195862035,1339212185835254979,60569627864948139,1877446032002947996,1476840309803836498,1674409549773079154,2261289809627323956,1620676361452309850,485845929781580319,667819868837326062,543325585573680752,169669360316697999,2065445762941016348,1143980852582192197,879613077169878012,490791030359617515,553889679947735996,854901197270772418,1512017586742309483],
[1333975734220536282,1624475294961883433,2013714843646686551,387753050891787715,1891664037638753152,1474363800490960665,228764610473036239,1271965512776309200,616622714150717665,2183853065882898914,1603921056436558455,1278305785625916691,1785287339746991569,787245376315201179,865008908874841523,1558360545234026720,2053852342358616800,1203825324609272790,249324890039751394,2284549442526631050,690411169025443499,1896705100243755688,1019141196394073998,1745951520945116672,1877875101142126281],
[388268184108666050,1663546121961100560,537194029325943645,141060673264636993,92383298555911594,310726784505670275,547802583486187135,159118446222473578,1234224907407287477,1672042922415213443,2225797701809082366,256753688157409316,2183760448850559938,2274743121376541192,1965240799083440338,292282584243489137,425208808136301279,1814979646358036499,1645001172908489675,313626223683054387,100216319369394927,921347960572271441,256557897817538451,1146429452453370378,256603928262550422],
[1855311713051320105,2010394091400845607,1380273197205760994,1875105215120210095,803591864334128788,987380598039967372,888655992546123673,324559724206853058,2075483893482250834,1569663680332545325,1533721600573638042,165612213284709063,958027789666993223,1566856060549512587,52123415902291645,173726089602734187,1859626896911108284,818149029795472887,233797944542782826,920924099019754761,1108052650172338666,51566499105179767,306779665625413189,554648611378031863,369923665063304726]]
theorem Zfl:(List.range 25).map (fun j=>(Bv 0 j).pub)=MV.getD 0 []:=by decide +kernel
theorem Zfk:(List.range 25).map (fun j=>(Bv 1 j).pub)=MV.getD 1 []:=by decide +kernel
theorem Zfj:(List.range 25).map (fun j=>(Bv 2 j).pub)=MV.getD 2 []:=by decide +kernel
theorem Zfi:(List.range 25).map (fun j=>(Bv 3 j).pub)=MV.getD 3 []:=by decide +kernel
theorem Hp{α:Type _}{f:Nat→α}{n:Nat}{l:List α}(h:(List.range n).map f=l)(d:α){i:Nat}(hi:i<n):f i=l.getD i d:=by
 rw[←h,List.getD_eq_getElem?_getD,List.getElem?_map,List.getElem?_range hi]
 rfl
theorem Rn{w i:Nat}(hw:w<4)(hi:i<25):(Bv w i).pub=(MV.getD w []).getD i 0:=
 match w,hw with
 |0,_=>Hp Zfl 0 hi
 |1,_=>Hp Zfk 0 hi
 |2,_=>Hp Zfj 0 hi
 |3,_=>Hp Zfi 0 hi
end Tp
end
section
namespace Ho
open Tryz
open Go Co Sg Ac It Tp
set_option maxRecDepth 100000
abbrev Cc:Key:=⟨451250166724161842,2257756017442593482⟩
theorem Sd:Bv 0 0=Cc:=by decide +kernel
abbrev Aj:By:=[101,49,99,102,102,53,51,98,54,48,53,100,56,48,54,53]
theorem XH:Ds Cc.pub=Aj:=by decide +kernel
theorem XK:DW 0=Aj:=by unfold DW;rw[Sd];exact XH
abbrev E2:Key:=⟨1352075592344464423,1333975734220536282⟩
theorem Sc:Bv 1 0=E2:=by decide +kernel
abbrev Dt:By:=[52,57,99,99,55,57,50,56,51,56,50,98,98,52,57,99]
theorem XG:Ds E2.pub=Dt:=by decide +kernel
theorem XJ:DW 1=Dt:=by unfold DW;rw[Sc];exact XG
abbrev E1:Key:=⟨2283096057012666658,388268184108666050⟩
theorem Sb:Bv 2 0=E1:=by decide +kernel
abbrev DU:By:=[52,98,51,49,101,57,49,52,51,99,48,57,101,53,49,50]
theorem XF:Ds E1.pub=DU:=by decide +kernel
theorem XI:DW 2=DU:=by unfold DW;rw[Sb];exact XF
def BN:Ac.Act:=⟨[101,49,99,102,102,53,51,98,54,48,53,100,56,48,54,53],0,[],0,0,[],[],0,[],[],[97,99,116,111,114,48],Cd,0,[],2257756017442593482,0,⟨463621902230729344,917882372497105743⟩⟩
def ND:By:=[177,220,50,131,172,9,191,105,45,177,138,110,12,23,122,43,187,96,169,158,92,203,34,177,164,252,175,51,160,102,146,3]
theorem Mg:dg BN=ND:=by decide +kernel
theorem VT:Ac.right BN=true:=by decide +kernel
def Bl:Ac.Act:=⟨[52,57,99,99,55,57,50,56,51,56,50,98,98,52,57,99],0,[],0,0,[],[],0,[],[],[97,99,116,111,114,49],Cd,0,[],1333975734220536282,0,⟨365550269551480019,527353734332053914⟩⟩
def Ti:By:=[67,155,65,145,36,150,102,16,38,9,46,209,7,245,217,25,187,51,108,40,124,152,250,242,167,220,223,119,45,60,79,68]
theorem Tg:dg Bl=Ti:=by decide +kernel
theorem Rf:Ac.right Bl=true:=by decide +kernel
def EG:Ac.Act:=⟨[52,98,51,49,101,57,49,52,51,99,48,57,101,53,49,50],0,[],0,0,[],[],0,[],[],[97,99,116,111,114,50],Cd,0,[],388268184108666050,0,⟨2064512097168684228,990639921392444402⟩⟩
def Tf:By:=[20,169,107,230,206,203,147,42,174,32,135,50,83,247,200,185,246,198,35,93,233,118,92,59,51,20,153,13,149,5,137,15]
theorem Te:dg EG=Tf:=by decide +kernel
theorem VS:Ac.right EG=true:=by decide +kernel
def B5:Ac.Act:=⟨[101,49,99,102,102,53,51,98,54,48,53,100,56,48,54,53],1,[177,220,50,131,172,9,191,105,45,177,138,110,12,23,122,43,187,96,169,158,92,203,34,177,164,252,175,51,160,102,146,3],19,1,[],[],0,[],[[52,57,99,99,55,57,50,56,51,56,50,98,98,52,57,99],[52,98,51,49,101,57,49,52,51,99,48,57,101,53,49,50]],[],Cd,0,[⟨1333975734220536282,998576552483734315,⟨[25,111,255,223,122,76,144,9,153,222,194,79,3,55,79,112,254,109,139,88,198,78,88,173,202,72,134,113,5,179,5,24],[13,148,85,205,64,143,17,169,70,238],[234,247,63,0,94,126,150,122,208,124,45,190,244,201,141,27]⟩⟩,⟨388268184108666050,1667220017242376943,⟨[175,13,146,145,24,197,169,185,55,156,249,125,112,183,90,28,114,148,27,120,254,112,38,179,240,134,11,27,246,112,255,210],[170,33,176,8,255,186,0,225,252,232],[138,78,134,219,192,33,178,96,142,137,252,77,6,187,239,126]⟩⟩],2,865209206174985545,⟨411880563516367019,2143002144481286437⟩⟩
def NA:By:=[39,178,29,8,103,112,152,78,190,56,212,240,184,91,38,71,166,45,228,3,51,59,201,135,163,155,180,54,135,89,130,32]
theorem Nz:dg B5=NA:=by decide +kernel
theorem VL:Ac.right B5=true:=by decide +kernel
def ET:Ac.Act:=⟨[101,49,99,102,102,53,51,98,54,48,53,100,56,48,54,53],2,[39,178,29,8,103,112,152,78,190,56,212,240,184,91,38,71,166,45,228,3,51,59,201,135,163,155,180,54,135,89,130,32],1,2,[],[],0,[],[],[112],Cd,0,[],0,0,⟨427663717636169156,1158183766696106578⟩⟩
def NC:By:=[161,1,76,184,108,248,205,98,246,34,191,102,76,208,210,176,87,200,144,156,101,213,144,253,100,245,23,83,73,55,109,79]
theorem NB:dg ET=NC:=by decide +kernel
theorem VN:Ac.right ET=true:=by decide +kernel
def Fz:Ac.Act:=⟨[101,49,99,102,102,53,51,98,54,48,53,100,56,48,54,53],3,[161,1,76,184,108,248,205,98,246,34,191,102,76,208,210,176,87,200,144,156,101,213,144,253,100,245,23,83,73,55,109,79],1,3,[],[],0,[],[],[112],Cd,0,[],0,0,⟨1610667295547259606,241149891956618305⟩⟩
def PK:By:=[211,135,196,132,26,15,104,241,213,210,227,104,169,192,212,184,20,97,137,168,11,217,96,113,66,178,184,53,239,207,183,218]
theorem PI:dg Fz=PK:=by decide +kernel
theorem VM:Ac.right Fz=true:=by decide +kernel
theorem ZkZ:Gx 0 0 0=BN:=by unfold Gx;rw[Sd,XK];decide +kernel
theorem Zcz:B0 Cc.pub BN=true:=by decide +kernel
theorem ZkY:Gx 1 0 0=Bl:=by unfold Gx;rw[Sc,XJ];decide +kernel
theorem Zcy:B0 E2.pub Bl=true:=by decide +kernel
theorem ZkX:Gx 2 0 0=EG:=by unfold Gx;rw[Sb,XI];decide +kernel
theorem Zcx:B0 E1.pub EG=true:=by decide +kernel
abbrev rL:Key:=⟨1801947628436053122,865209206174985545⟩
def Km:Chn:=⟨Aj,[BN],[⟨0,2257756017442593482,0⟩],ND,0,false⟩
theorem ZjK:AF Aj [BN]=Km:=by
 have h:=Mg;show Bi (nilC Aj) BN=_
 unfold Bi;rw[h];rfl
def sL:By:=[6,114,101,103,97,105,110,178,226,183,163,172,180,202,161,6,1,32,177,220,50,131,172,9,191,105,45,177,138,110,12,23,122,43,187,96,169,158,92,203,34,177,164,252,175,51,160,102,146,3]
theorem Zd4:OF Cc Km=sL:=by decide +kernel
theorem Zfd:Hq sL=rL:=by decide +kernel
theorem Zdc:MH rL.secret sL=(⟨1,175170348431980705⟩,⟨2,854236077641602239⟩):=by decide +kernel
def GI:Wrap:=⟨1333975734220536282,998576552483734315,⟨[25,111,255,223,122,76,144,9,153,222,194,79,3,55,79,112,254,109,139,88,198,78,88,173,202,72,134,113,5,179,5,24],[13,148,85,205,64,143,17,169,70,238],[234,247,63,0,94,126,150,122,208,124,45,190,244,201,141,27]⟩⟩
def GH:Wrap:=⟨388268184108666050,1667220017242376943,⟨[175,13,146,145,24,197,169,185,55,156,249,125,112,183,90,28,114,148,27,120,254,112,38,179,240,134,11,27,246,112,255,210],[170,33,176,8,255,186,0,225,252,232],[138,78,134,219,192,33,178,96,142,137,252,77,6,187,239,126]⟩⟩
theorem Zci:JB E2.pub (sL++Ah 0) (BA ⟨1,175170348431980705⟩)=GI:=by decide +kernel
theorem Zch:JB E1.pub (sL++Ah 1) (BA ⟨2,854236077641602239⟩)=GH:=by decide +kernel
theorem ZfS:MZ E2.secret GI=true:=by decide +kernel
theorem ZfR:MZ E1.secret GH=true:=by decide +kernel
theorem ZfC:JU E2.secret GI=BA ⟨1,175170348431980705⟩:=by decide +kernel
theorem ZfB:JU E1.secret GH=BA ⟨2,854236077641602239⟩:=by decide +kernel
theorem ZcL:IS (Ig E2.secret GI) GI.box.nonce GI.box.data=GI.box.tag:=by decide +kernel
theorem ZcK:IS (Ig E1.secret GH) GH.box.nonce GH.box.data=GH.box.tag:=by decide +kernel
theorem Wh:I4 (BA ⟨1,175170348431980705⟩)=⟨1,175170348431980705⟩∧OT (BA ⟨1,175170348431980705⟩)=true:=by decide +kernel
theorem part1:I4 (BA ⟨2,854236077641602239⟩)=⟨2,854236077641602239⟩∧OT (BA ⟨2,854236077641602239⟩)=true:=by decide +kernel
theorem Zg6:Pf ⟨1,175170348431980705⟩ ⟨2,854236077641602239⟩=rL.secret:=by decide +kernel
theorem Zfc:Sg.keyOf rL.secret=rL:=by decide +kernel
def xD:Ac.Act:={ act0 with author:=Aj,seq:=1,prev:=ND,kind:=19,time:=1,to:=[Dt,DU],n:=2,m:=rL.pub,wraps:=[GI,GH] }
theorem ZkB:Er Cc xD=B5:=by decide +kernel
theorem Zfa:Ac.right xD=true:=by decide +kernel
theorem Zcu:B0 Cc.pub B5=true:=by decide +kernel
theorem ZkI:Er Cc { act0 with author:=Aj,seq:=2,prev:=NA,kind:=1,time:=2,text:=[112] }=ET:=by decide +kernel
theorem ZkH:Er Cc { act0 with author:=Aj,seq:=3,prev:=NC,kind:=1,time:=3,text:=[112] }=Fz:=by decide +kernel
theorem Zcw:B0 Cc.pub ET=true:=by decide +kernel
theorem Zcv:B0 Cc.pub Fz=true:=by decide +kernel
def Dp(b:Nat):By:=if b=0 then NA else if b=1 then NC else PK
abbrev Nk:Int:=1515223500666065565
theorem Zg5:(Bv 0 5).pub=Nk:=Rn (w:=0) (i:=5) (by decide) (by decide)
abbrev Nj:Int:=1822716087195862035
theorem Zg4:(Bv 0 6).pub=Nj:=Rn (w:=0) (i:=6) (by decide) (by decide)
abbrev Ni:Int:=1339212185835254979
theorem Zg3:(Bv 0 7).pub=Ni:=Rn (w:=0) (i:=7) (by decide) (by decide)
def kC(i:Nat):Int:=if i=0 then Nk else if i=1 then Nj else Ni
def Ca(i b h:Nat):It.Claim:=signClaim rL (E8 Aj ((2+b:Nat):Int) (Dp b) (h:Int) (kC i) ((10+i:Nat):Int))
def dC:List By:=[
[16,250,253,104,245,49,6,142,157,199,152,201,192,81,8,193,119,22,176,233,59,211,133,211,158,216,247,161,30,254,218,18],
[219,177,49,63,61,26,225,116,83,43,76,243,131,246,172,183,182,50,27,43,250,224,245,92,223,125,211,23,98,85,182,66],
[6,28,64,37,149,140,46,153,73,219,107,91,217,166,248,89,251,29,131,38,200,29,148,137,120,100,23,140,34,21,15,70],
[125,94,49,136,105,212,12,200,150,214,176,33,67,87,21,56,230,237,62,152,116,122,172,188,217,246,110,51,66,97,187,161],
[112,73,63,253,150,211,114,221,252,215,41,160,7,142,252,11,5,104,130,240,5,136,135,95,100,93,106,135,131,14,223,195],
[209,86,194,233,145,139,219,119,255,173,93,150,129,183,168,135,10,35,18,40,91,39,230,219,7,255,43,9,9,72,68,21],
[134,212,200,104,53,14,229,158,195,226,212,55,241,130,219,154,225,4,77,190,162,176,69,216,93,237,61,10,107,62,65,91],
[254,132,64,9,122,214,180,22,133,232,76,62,56,29,187,11,87,115,187,232,202,10,116,156,184,69,84,108,107,196,255,249],
[120,68,19,218,60,63,64,167,222,198,169,26,42,145,201,115,71,106,22,222,124,3,4,165,186,79,230,193,112,202,159,130],
[138,224,92,42,61,202,22,40,74,246,197,58,215,189,110,35,23,17,136,124,11,54,56,44,148,169,182,59,6,238,27,210],
[234,134,135,188,201,17,146,210,175,69,56,146,233,183,208,212,233,182,253,40,239,105,142,189,24,198,39,24,157,173,202,184],
[158,85,165,94,53,229,66,205,219,104,146,210,128,86,88,51,246,125,112,93,58,212,185,23,121,239,141,28,4,150,234,202],
[178,233,33,91,230,189,120,110,123,101,149,176,133,105,224,191,138,249,39,143,199,150,207,137,202,65,92,217,122,71,180,191],
[88,140,57,7,64,169,137,188,153,40,199,199,215,244,163,253,207,139,77,61,214,156,32,188,197,221,60,240,43,45,144,123],
[178,182,127,209,88,182,147,29,67,74,244,105,96,238,158,206,112,191,120,132,80,63,118,47,74,63,218,147,109,75,192,29],
[230,247,17,4,14,193,152,70,160,88,132,150,136,153,183,183,30,136,8,197,90,87,224,26,218,39,254,207,39,88,239,135],
[12,192,186,28,191,82,199,101,125,243,123,244,236,19,227,118,186,75,43,238,149,184,82,229,60,107,116,92,230,245,244,169],
[63,69,139,85,68,80,61,84,78,130,118,151,176,195,58,75,78,28,254,222,182,130,5,126,219,30,166,124,195,4,221,59],
[26,27,241,148,174,120,75,200,44,255,22,246,192,226,40,5,47,169,157,48,238,152,129,119,251,171,48,95,205,108,163,160],
[88,26,8,41,178,3,147,90,222,204,176,20,214,30,180,128,78,110,244,12,143,119,78,146,179,70,36,250,249,208,28,144],
[218,211,49,59,99,133,82,191,44,15,37,53,244,220,221,127,55,199,212,114,9,2,51,57,164,236,229,247,221,67,134,26],
[246,219,108,96,116,120,116,254,175,243,36,70,220,208,174,112,209,163,212,247,138,255,93,129,195,141,120,28,99,121,78,66],
[236,242,125,109,85,138,123,22,236,36,57,43,177,234,16,249,90,67,92,145,96,250,9,121,99,22,120,144,146,119,222,243],
[36,209,174,21,0,53,154,227,203,118,228,95,234,126,124,218,2,61,52,254,107,138,118,130,40,93,82,115,169,69,18,166],
[236,1,156,171,35,69,189,103,130,44,105,61,24,70,5,27,50,205,239,219,107,155,10,206,132,76,28,38,37,227,125,229],
[251,167,200,9,26,79,119,185,18,131,185,128,38,237,198,71,175,81,160,56,252,134,223,26,132,118,39,47,61,42,208,106],
[179,191,134,147,71,160,87,245,92,155,14,92,150,143,215,171,148,59,138,209,204,167,93,72,180,188,202,78,182,231,115,20],
[197,231,25,219,79,232,142,21,51,204,92,75,222,251,22,18,5,70,76,146,97,198,180,195,97,179,55,97,58,49,14,23],
[178,224,207,178,173,10,95,161,168,58,10,156,6,224,1,111,212,181,23,148,210,3,9,175,54,176,177,50,143,194,171,110],
[31,111,167,32,131,119,37,146,205,48,242,144,245,85,137,79,156,102,242,186,163,218,65,158,44,115,141,37,133,158,3,65],
[32,90,53,21,48,234,189,87,101,56,116,38,144,32,13,8,15,126,107,19,67,141,179,101,232,152,180,189,162,103,106,166],
[154,156,26,183,79,203,44,97,114,79,85,48,148,49,52,39,104,129,237,94,248,160,49,247,52,98,4,20,27,243,212,253],
[144,64,129,206,207,203,44,212,233,179,7,11,100,137,239,154,63,109,13,8,40,182,164,186,128,111,194,159,209,47,4,54],
[198,16,151,97,187,218,180,125,37,107,28,245,55,27,105,99,157,4,193,169,30,0,107,228,245,185,226,210,16,180,252,178],
[154,187,253,45,207,178,38,222,147,72,177,153,209,245,197,168,1,198,196,46,215,184,234,200,159,119,174,180,123,138,240,185],
[104,248,215,161,42,194,225,82,35,6,138,164,198,150,239,29,173,66,86,145,45,86,199,69,250,159,106,149,205,211,52,28]]
end Ho
end
section
namespace Pe
open Tryz
open Go Go.RowKit Co Sg Ac It Sl Tp Ho
set_option maxRecDepth 100000
set_option maxHeartbeats 4000000
theorem ZdA:AC prog 21 [.it .i64 0,.it .i64 0,.it .i64 0] [] (Am BN) []:=by
 have k:=PZ 0 0 0 (by decide)
 rwa[ZkZ]at k
theorem U5:AC prog 21 [.it .i64 1,.it .i64 0,.it .i64 0] [] (Am Bl) []:=by
 have k:=PZ 1 0 0 (by decide)
 rwa[ZkY]at k
theorem Zdz:AC prog 21 [.it .i64 2,.it .i64 0,.it .i64 0] [] (Am EG) []:=by
 have k:=PZ 2 0 0 (by decide)
 rwa[ZkX]at k
theorem QI:AC prog 7 [.it .i64 0] [] (.st Aj) []:=by
 have k:=P2 0 (by decide)
 rwa[XK]at k
theorem U6:AC prog 7 [.it .i64 1] [] (.st Dt) []:=by
 have k:=P2 1 (by decide)
 rwa[XJ]at k
theorem ZdB:AC prog 7 [.it .i64 2] [] (.st DU) []:=by
 have k:=P2 2 (by decide)
 rwa[XI]at k
theorem U4:AC prog 11 [.it .i64 0,.it .i64 0] [] (Bx Cc) []:=by
 have k:=L1 0 0 (by decide) (by decide)
 rwa[Sd]at k
theorem Zdy:AC prog 11 [.it .i64 1,.it .i64 0] [] (Bx E2) []:=by
 have k:=L1 1 0 (by decide) (by decide)
 rwa[Sc]at k
theorem Zdx:AC prog 11 [.it .i64 2,.it .i64 0] [] (Bx E1) []:=by
 have k:=L1 2 0 (by decide) (by decide)
 rwa[Sb]at k
theorem Zdw:(Op.bytesLess Dt DU||Dt==DU)=true:=by decide +kernel
theorem Zds:AC prog 30 [.it .i64 E2.secret,Am B5,.it .i64 0] [] (.tup [Bm ⟨1,175170348431980705⟩,.bo true]) []:=
 Vq E2.secret B5 0 GI _ rfl rfl (by decide) ZfS (by decide) (by decide) (by decide) ZcL ZfC Wh.1 Wh.2
theorem Zdr:AC prog 30 [.it .i64 E1.secret,Am B5,.it .i64 1] [] (.tup [Bm ⟨2,854236077641602239⟩,.bo true]) []:=
 Vq E1.secret B5 1 GH _ rfl rfl (by decide) ZfR (by decide) (by decide) (by decide) ZcK ZfB part1.1 part1.2
theorem Zdq:AC prog 31 [Am B5,.sl .ro [Bm ⟨1,175170348431980705⟩,Bm ⟨2,854236077641602239⟩]] [] (.tup [Bx rL,.bo true]) []:=by
 have kj:=ZdC ⟨1,175170348431980705⟩ ⟨2,854236077641602239⟩ (by decide) (by decide) (by decide) (by decide +kernel)
 rw[Zg6]at kj;exact ZeL B5 _ _ rL rfl rfl kj (by decide +kernel) Zfc rfl (by decide)
end Pe
end
section
namespace Pe
open Tryz
open Go Go.RowKit Co Sg Ac It Sl Tp Ho
set_option maxRecDepth 100000
set_option maxHeartbeats 4000000
theorem Ua:{ Ej Km 19 1 with to:=[Dt,DU],n:=2,m:=rL.pub,wraps:=[GI,GH] }=xD:=rfl
theorem Zdo:AC prog 28 [Bx Cc,AN Km,.sl .ro [.st Dt,.st DU],.sl .ro [.it .i64 E2.pub,.it .i64 E1.pub],.it .i64 2,.it .i64 1] [] (.tup [Am B5,.it .i64 0]) []:=by
 have k:=Zet Cc Km Dt DU E2.pub E1.pub 1 ⟨0,Cc.pub,0⟩ rL ⟨1,175170348431980705⟩ ⟨2,854236077641602239⟩ GI GH sL
  (by decide +kernel) (by decide) (by decide) (by decide) (by decide) (by decide) (by decide) rfl rfl (by decide +kernel) (by decide)
  Zd4 Zfd (by decide) Zdc (by decide) (by decide) (by decide +kernel) (by decide +kernel) Zci Zch (by rw[Ua];exact Zfa)
 rwa[Ua,ZkB]at k
end Pe
end
section
namespace Pe
open Tryz
open Go Go.RowKit Co Sg Ac It Sl Tp
set_option maxRecDepth 100000
set_option maxHeartbeats 8000000
theorem MD(n:Nat)(h:n<4):AC prog 17 [.it .i64 (n:Int)] [] (Bx (BO n)) []:=by
 have k1:=Gd (n:Int) 4 (by omega) (by decide)
 have hp:AM (n:Int) 4=(n:Int):=by
  have :=FN (n:Int) (m:=4) (by decide)
  show pickN47 (n:Int) 4=n
  unfold pickN47;rw[if_neg (by rw[Int.tmod_eq_emod_of_nonneg (by omega)];omega),Int.tmod_eq_emod_of_nonneg (by omega)]
  omega
 rw[hp]at k1;have k2:=VB (On n) (by match n with |0=>decide|1=>decide|2=>decide|n+3=>exact(by decide:([115,51]:By).length≤100000000))
 change AC _ _ _ _ (Bx (BO n)) _ at k2;have hg:([AV.st [115,48],.st [115,49],.st [115,50],.st [115,51]]:List AV)[n]? = some (.st (On n)):=by
  match n,h with
  |0,_=>rfl
  |1,_=>rfl
  |2,_=>rfl
  |3,_=>rfl
 have hn4:(n:Int)<4:=by omega
 generalize BO n=k at *;generalize On n=s at *;refine Ai [10,46] [] func17 ?_;refine run ?_;refine cp k1 ?_;refine Aa (an @hg @hn4) ?_;refine cp k2 ?_;refine run ?_;exact Ad
theorem Uz:AC prog 24 [] [] (AB AG) []:=by
 have k0:=MD 0 (by decide)
 have k1:=MD 1 (by decide)
 have k2:=MD 2 (by decide)
 have k3:=MD 3 (by decide)
 show AC _ _ _ _ (.sl .ro [.it .i64 (BO 0).pub,.it .i64 (BO 1).pub,.it .i64 (BO 2).pub,.it .i64 (BO 3).pub]) _
 generalize BO 0=a at *;generalize BO 1=b at *;generalize BO 2=c at *;generalize BO 3=d at *;change AC _ _ [.it .i64 0] _ _ _ at k0;change AC _ _ [.it .i64 1] _ _ _ at k1;change AC _ _ [.it .i64 2] _ _ _ at k2;change AC _ _ [.it .i64 3] _ _ _ at k3;refine Ai [17] [] func24 ?_;refine run ?_;refine cp k0 ?_;refine run ?_;refine cp k1 ?_;refine run ?_;refine cp k2 ?_;refine run ?_;refine cp k3 ?_;refine run ?_;exact AQ
end Pe
end
section
namespace Pe
open Tryz
open Go Go.RowKit Co Sg Ac It Sl Tp
set_option maxRecDepth 100000
set_option maxHeartbeats 8000000
theorem Zjj(l:List Int)(hl:l.length≤1000000):AC prog 59 [AB l] [] (AB l) []:=by
 cases l with
 | nil=>
  refine AC.empties fun A c=>?_
  refine Ap [] [] func59 ?_;cases A with
  |none=>
   refine run ?_;exact AQ
  |some A=>
   refine run ?_;exact AQ
 |cons x l=>
  have hs1:AH 1 ((x::l).map (AV.it .i64))=true:=BM 1 (AV.it .i64) (fun _=>rfl) _
  have hl':l.length≤1000000:=by simp only[List.length_cons]at hl;omega
  show AC _ _ [.sl .ro ((x::l).map (AV.it .i64))] _ (.sl .ro ((x::l).map (AV.it .i64))) _
  simp only[List.map_cons]at hs1 ⊢;refine Ap [] [] func59 ?_;refine Aa @hs1 ?_;exact AQ
theorem WH(l:List Int)(hl:l.length≤1000000):AC prog 23 [AB l] [] (Ie l []) []:=by
 have k:=Zjj l hl;refine Ai [59] [] func23 ?_;refine run ?_;refine cp k ?_;refine run ?_;exact AQ
theorem Zhz(l:By)(hs:l.length≤70368744177664):AC prog 94 [.st l] [] (.st (Sm.hex l)) []:=by
 refine AC.ofBelow (by kernel_rfl) fun w g cargs ht hargs=>?_
 rw[M6 hargs];refine(Zhy ⟨l.toArray⟩ w (by simp[ByteArray.size];omega)).mono ?_
 rintro r w' ⟨rfl,hb⟩
 refine⟨_,rfl,fun g'=>?_,hb⟩
 exact .st g' _
theorem Zhr(n:Int)(h:-9223372036854775808≤n∧n≤9223372036854775807):AC prog 34 [.it .i64 n] [] (.st (Ds n)) []:=by
 have k1:=C2 [97,99,116,111,114] (by simp)
 have k2:=BQ n (by omega) (by omega)
 have hnl:=AD n (by omega)
 have htl:(text [97,99,116,111,114]).length≤20:=by decide
 have k3:=MK (text [97,99,116,111,114]++Ah n) (by rw[List.length_append];omega)
 have hsl:=show(Sm.sha (text [97,99,116,111,114]++Ah n)).length=32 from rfl
 have k4:=Zhz (Sm.sha (text [97,99,116,111,114]++Ah n)) (by omega)
 have hhl:=XN (Sm.sha (text [97,99,116,111,114]++Ah n));unfold Ds;generalize text [97,99,116,111,114]=x at *;generalize Ah n=y at *;generalize Sm.sha (x++y)=z at *;generalize Sm.hex z=u at *;have hb16:16≤u.length:=by omega
 refine Ai [66,67,50,94] [] func34 ?_;refine run ?_;refine cp k1 ?_;refine run ?_;refine cp k2 ?_;refine run ?_;refine cp k3 ?_;refine run ?_;refine cp k4 ?_;refine Aa @hb16 ?_;exact Ad
end Pe
end
section
namespace Pe
open Tryz
open Go Go.RowKit Co Sg Ac It Sl Tp
set_option maxRecDepth 100000
set_option maxHeartbeats 4000000
abbrev BC(ps:List Int)(l:List It.Item):AV:=.agg [AB ps,.sl .ro (l.map Ao)]
theorem GV(l:List It.Item):AH 49 (l.map Ao)=true:=BM 49 Ao (fun _=>rfl) _
def Ik(a b:By):Bool:=!(Op.bytesLess a b||a==b)
def C4:List It.Item→By→Nat
 |[],_=>0
 |x::l,d=>if Ik (It.digest x) d=true then 0 else C4 l d+1
theorem Ry:∀(l:List It.Item) (d:By),C4 l d≤l.length
 |[],_=>Nat.le_refl _
 |x::l,d=>by
  unfold C4;have :=Ry l d;rw[List.length_cons];split<;>omega
def FQ(l:List It.Item)(d:By):Bool:=l.any fun x=>It.digest x==d
def Ce(ps:List Int)(l:List It.Item)(it:It.Item):List It.Item×Bool:=
 if(It.right it&&It.signed ps it)=true then
  if FQ l (It.digest it)=true then(l,false)else(l.take (C4 l (It.digest it))++it::l.drop (C4 l (It.digest it)),true)
 else(l,false)
def TK(l:List It.Item)(d:By)(k:Nat):Nat:=if C4 l d<k then C4 l d else l.length
theorem V8:∀(l:List It.Item) (d:By) (k:Nat) (h:k<l.length),(k<C4 l d→Ik (It.digest l[k]) d=false)∧(C4 l d=k→Ik (It.digest l[k]) d=true)
 |x::l,d,0,h=>by
  simp only[List.getElem_cons_zero];unfold C4;cases hg:Ik (It.digest x) d with
  |true=>simp
  |false=>simp
 | x::l,d,k+1,h=>by
  have ih:=V8 l d k (by simpa using h)
  simp only[List.getElem_cons_succ];unfold C4;cases hg:Ik (It.digest x) d with
  |true=>simp
  |false=>
   simp only[Bool.false_eq_true,if_false];exact⟨fun h=>ih.1 (by omega),fun h=>ih.2 (by omega)⟩
theorem ZaC(ps:List Int)(l:List It.Item)(it:It.Item)(hps:∀p∈ps,-9223372036854775808≤p∧p≤9223372036854775807)(hl:l.length≤1000)(hz:∀x∈l,Iz x)(hi:Iz it):
  AC prog 22 [BC ps l,Ao it] [] (.tup [BC ps (Ce ps l it).1,.bo (Ce ps l it).2]) []:=by
 have k1:=F9 it hi;have k2:=ZdD ps it hi hps;have k3:=Gs it hi;have hsz:=GV l;unfold Ce;cases hr:It.right it with
 |false=>
  rw[hr]at k1;rw[Bool.false_and,if_neg (by decide)]
  refine Ai [45,58,14] [] func22 ?_;refine run ?_;refine cp k1 ?_;refine run ?_;exact Ad
 |true=>
 rw[hr]at k1;rw[Bool.true_and];cases hg:It.signed ps it with
 |false=>
  rw[hg]at k2;rw[if_neg (by decide)]
  refine Ai [45,58,14] [] func22 ?_;refine run ?_;refine cp k1 ?_;refine run ?_;refine cp k2 ?_;refine run ?_;exact Ad
 |true=>
 rw[hg]at k2;rw[if_pos rfl];generalize hV:AV.tup [BC ps (if FQ l (It.digest it)=true then(l,false)else(l.take (C4 l (It.digest it))++it::l.drop (C4 l (It.digest it)),true)).1,.bo (if FQ l (It.digest it)=true then(l,false)else(l.take (C4 l (It.digest it))++it::l.drop (C4 l (It.digest it)),true)).2]=V
 have hV1:FQ l (It.digest it)=true→V=.tup [.agg [AB ps,.sl .ro (l.map Ao)],.bo false]:=fun h=>by rw[←hV,if_pos h]
 have hV2:FQ l (It.digest it)=false→V=.tup [.agg [AB ps,.sl .ro ((l.take (C4 l (It.digest it))).map Ao++[Ao it]++(l.drop (C4 l (It.digest it))).map Ao)],.bo true]:=fun h=>by
  rw[←hV,if_neg (by rw[h];decide)]
  show AV.tup [.agg [AB ps,.sl .ro (List.map Ao (_++it::_))],.bo true]=_
  rw[List.map_append,List.map_cons,List.append_assoc];rfl
 clear hV;have hdg:∀x∈l,AC prog 14 [Ao x] [] (.st (It.digest x)) []:=fun x hx=>Gs x (hz x hx)
 have hple:=Ry l (It.digest it);have hln:(l.map Ao).length=l.length:=List.length_map _;have hpg:=V8 l (It.digest it);have hat:∀k,TK l (It.digest it) k=if C4 l (It.digest it)<k then C4 l (It.digest it)else l.length:=fun _=>rfl
 have hend:FQ l (It.digest it)=false→TK l (It.digest it) l.length=C4 l (It.digest it):=fun _=>by
  rw[hat];split<;>omega
 have hhas:∀k (h:k<l.length),(It.digest l[k]==It.digest it)=true→FQ l (It.digest it)=true:=fun k h e=>List.any_eq_true.2 ⟨l[k],List.getElem_mem h,e⟩
 have hnone:(∀k (h:k<l.length),(It.digest l[k]==It.digest it)=false)→FQ l (It.digest it)=false:=fun h=>by
  cases hx:FQ l (It.digest it)with
  |false=>rfl
  |true=>
   obtain⟨x,hx,e⟩:=List.any_eq_true.1 hx;obtain⟨k,hk,rfl⟩:=List.mem_iff_getElem.1 hx;rw[h k hk]at e;cases e
 have hszt:=GV (l.take (C4 l (It.digest it)));have hszd:=GV (l.drop (C4 l (It.digest it)));generalize hat0:TK l (It.digest it)=at0 at *;generalize hh:FQ l (It.digest it)=hb at *;generalize C4 l (It.digest it)=P at *;generalize It.digest it=d at *;refine Ai [45,58,14] [] func22 ?_;refine run ?_;refine cp k1 ?_;refine run ?_;refine cp k2 ?_;refine run ?_;refine cp k3 ?_;refine run ?_;refine CG (fun m e S=>e 2=.ptr 0 0∧e 3=.ptr 1 0∧e 4=.ptr 2 0∧e 6=.st d∧e 29=.sl .ro (l.map Ao)∧e 30=.it .i64 (l.length:Int) ∧ ∃(k:Nat) (T:Ae),S=.cells [AB ps,.sl .ro (l.map Ao)]::.cells (L2 it)::.cells [.sl .full [],.sl .full []]::T∧e 31=.it .i64 (k:Int)∧e 7=.it .i64 ((at0 k:Nat):Int)∧(∀j (h:j<l.length),j<k→(It.digest l[j]==d)=false)∧k≤l.length∧m=l.length-k) l.length _ _ (Aq.refl _ _ _)
  ⟨Ab,Ab,Ab,Ab,Ab,Ab,0,[],rfl,Ab,by rw[hat,if_neg (Nat.not_lt_zero _)];exact Ab,fun j _ h=>absurd h (Nat.not_lt_zero _),by omega,rfl⟩ ?_
 rintro m e S ⟨s2,s3,s4,s6,s29,s30,k,T,rfl,s31,s7,hne,hk,rfl⟩
 rw[GJ s4,GJ s3,GJ s2];have hT1:∀y:SObj,(T++[y])[T.length]? = some y:=fun y=>by simp
 have hT2:∀y z:SObj,(T++[y]).set T.length z=T++[z]:=fun y z=>by simp
 by_cases hlt:k<l.length
 rotate_left
 ·obtain rfl:k=l.length:=by omega
  have hb0:hb=false:=hnone fun j h=>hne j h h
  subst hb0;have he:=hend rfl;rw[he]at s7;have hlt':¬(l.length:Int)<(l.length:Int):=by omega
  have w1:IntKind.i64.wrap ((l.length:Int)+1)=((l.length+1:Nat):Int):=by rw[wrap64 (by omega) (by omega)];omega
  rw[hV2 rfl];refine Aa (an @s2 (an @s3 (an @s4 (an @s6 (an @s29 (AA @s30 @s31 @s7 @hlt' @w1 @hsz @hszt @hszd @hln @hT1 @hT2)))))) ?_;exact AQ
 have hg:l[k]? = some l[k]:=List.getElem?_eq_getElem hlt
 have hlt':(k:Int)<(l.length:Int):=by omega
 have w1:=Cg (k:=k) (by omega)
 have kd:=hdg l[k] (List.getElem_mem hlt);have hp:=hpg k hlt;have hhk:=hhas k hlt;have hnk:(It.digest l[k]==d)=false → ∀j (h:j<l.length),j<k+1→(It.digest l[j]==d)=false:=fun h0 j h h'=>by
  by_cases hj:j=k
  ·subst hj;exact h0
  ·exact hne j h (by omega)
 have hak:(k<P→at0 (k+1)=l.length∧at0 k=l.length)∧(P=k→at0 (k+1)=k∧at0 k=l.length)∧(P<k→at0 (k+1)=P∧at0 k=P):=by
  refine⟨fun h=>⟨by rw[hat,if_neg (by omega)],by rw[hat,if_neg (by omega)]⟩,fun h=>⟨by rw[hat,if_pos (by omega),h],by rw[hat,if_neg (by omega)]⟩,fun h=>⟨by rw[hat,if_pos (by omega)],by rw[hat,if_pos h]⟩⟩
 generalize l[k]=x at *;generalize It.digest x=y at *;refine Aa (an @s2 (an @s3 (AA @s4 @s6 @s29 @s30 @s31 @s7 @hlt' @hg @hsz @hT1 @hT2))) ?_;refine cp kd ?_;cases he:(y==d)with
 |true=>
  have hb1:=hhk he;subst hb1;rw[hV1 rfl];refine Aa (AA @s2 @s3 @s4 @s6 @s29 @s30 @s31 @s7 @he @hT1 @hT2) ?_;exact AQ
 | false=>
  have hnk:=hnk he;rcases Nat.lt_trichotomy k P with h|h|h
  ·have hgt:=hp.1 h
   unfold Ik at hgt;rw[he,Bool.or_false]at hgt;obtain⟨a1,a2⟩:=hak.1 h;rw[a2]at s7;refine Aa (an @s2 (an @s3 (AA @s4 @s6 @s29 @s30 @s31 @s7 @he @hgt @w1 @hT1 @hT2))) ?_;exact As (l.length-(k+1)) (by omega) ⟨Ab,Ab,Ab,Ab,Ab,Ab,k+1,_,rfl,Ab,by rw[a1];exact Ab,hnk,by omega,rfl⟩
  ·have hgt:=hp.2 h.symm
   unfold Ik at hgt;rw[he,Bool.or_false]at hgt;obtain⟨a1,a2⟩:=hak.2.1 h.symm;rw[a2]at s7;refine Aa (an @s2 (an @s3 (AA @s4 @s6 @s29 @s30 @s31 @s7 @he @hgt @w1 @hT1 @hT2))) ?_;exact As (l.length-(k+1)) (by omega) ⟨Ab,Ab,Ab,Ab,Ab,Ab,k+1,_,rfl,Ab,by rw[a1];exact Ab,hnk,by omega,rfl⟩
  ·obtain⟨a1,a2⟩:=hak.2.2 h
   rw[a2]at s7;have hne':((P:Nat):Int)≠(l.length:Int):=by omega
   cases hgt:(!(Op.bytesLess y d))with
   |true=>
    refine Aa (an @s2 (an @s3 (an @s4 (AA @s6 @s29 @s30 @s31 @s7 @he @hgt @w1 @hne' @hT1 @hT2)))) ?_;exact As (l.length-(k+1)) (by omega) ⟨Ab,Ab,Ab,Ab,Ab,Ab,k+1,_,rfl,Ab,by rw[a1];exact Ab,hnk,by omega,rfl⟩
   |false=>
    refine Aa (an @s2 (an @s3 (AA @s4 @s6 @s29 @s30 @s31 @s7 @he @hgt @w1 @hT1 @hT2))) ?_;exact As (l.length-(k+1)) (by omega) ⟨Ab,Ab,Ab,Ab,Ab,Ab,k+1,_,rfl,Ab,by rw[a1];exact Ab,hnk,by omega,rfl⟩
end Pe
end
section
namespace Pe
open Tryz
open Go Go.RowKit Co Sg Ac It Sl Tp
set_option maxRecDepth 100000
set_option maxHeartbeats 8000000
abbrev ZhQ(a:Ac.Act)(d:By):AV:=.agg [.it .i64 a.seq,.st d,.st a.author,.it .i64 a.seq,.st a.prev,.it .i64 a.kind,.it .i64 a.time,.st a.object,.st a.target,.it .i64 a.scope,.st a.group,B8 a.to,.st a.text,.st a.body.nonce,.st a.body.data,.st a.body.tag,.it .i64 a.epoch,.sl .ro (a.wraps.map Bo),.it .i64 a.n,.it .i64 a.m,.it .i64 a.sig.e,.it .i64 a.sig.s]
theorem Zq(it:It.Item)(id:By)(hk:(it.kind==1)=false):AC prog 124 [Ao it,.ptr 0 0] [.cells [.st id]] (.tup [Br it.claim,.it .i64 0,.bo false]) [.cells [.st id]]:=by
 refine AC.hw 18 func124 rfl (by decide) (Nat.le_of_ble_eq_true rfl) rfl ?_
 refine HW.seq (HW.aw [] [] (by decide) (by kernel_rfl) ?_)
 refine Al ?_
 refine run ?_;refine HW.seq (HW.spec [] [] [0,1] [7,9,14,15] [] (by decide) (by decide +kernel) (by decide +kernel) ?_)
 refine Al ?_
 repeat (refine g4 (by rfl) ?_;(first|refine BJ ?_|refine a4 ?_);refine runf4 @hk ?_;(first|refine EO ?_|refine C7 ?_))
 repeat (refine L8 (by rfl) ?_)
 repeat (refine g4 (by rfl) ?_;(first|refine BJ ?_|refine a4 ?_);refine runf4 @hk ?_;(first|refine EO ?_|refine C7 ?_))
 refine EB ?_
 refine HW.aw [] [] (by decide) (by kernel_rfl) ?_
 refine Al ?_
 refine run ?_;exact GZ
theorem Zhg(F:FuncId):AC prog 342 [.sl .ro [],.it .i64 0,.it .i64 0,.fn (.func F) [] []] [] (.tup []) []:=by
 refine AC.enter4 [220] [] [(6,([],[1000000],[]))] [] func342 rfl (by decide) (by decide) (Nat.le_of_ble_eq_true rfl) (by kernel_rfl) ?_;refine KE ?_
 refine run4 ?_
 refine DR ?_
 refine run4 ?_
 exact Ad
theorem Zc5(F:FuncId):AC prog 292 [.sl .ro [],.it .i64 0,.fn (.func F) [] []] [] (.tup []) []:=by
 have k:=Zhg F;refine Ai [342] [] func292 ?_;refine run ?_;refine DR ?_
 refine run ?_;refine cp k ?_;refine run ?_;refine DR ?_
 refine run ?_;exact Ad
theorem Zdj(F:FuncId):AC prog 205 [.sl .ro [],.fn (.func F) [] []] [] (.tup []) []:=by
 have k:=Zc5 F;refine Ai [292] [] func205 ?_;refine run ?_;refine cp k ?_;refine run ?_;exact Ad
theorem Ri:AC prog 19 [.it .i64 4] [] (.it .i64 3) []:=by
 refine Ai [] [] func19 ?_;refine run ?_;exact Ad
end Pe
end
section
namespace Pe
open Tryz
open Go Go.RowKit Co Sg Ac It Sl Tp
set_option maxRecDepth 100000
set_option maxHeartbeats 4000000
def Ki(a b:Int):Int:=if a<b then -1 else if a>b then 1 else 0
def Jk(a b:By):Int:=if Op.bytesLess a b=true then -1 else if Ik a b=true then 1 else 0
def OU(x y:Int):Int:=if x !=0 then x else y
theorem WN(n:Int):AC prog 271 [.it .i64 n] [] (.bo false) []:=by
 have h:(n !=n)=false:=Gw rfl;refine Ai [] [] func271 ?_;refine Aa @h ?_;exact Ad
theorem WM(s:By):AC prog 272 [.st s] [] (.bo false) []:=by
 have h:(s==s)=true:=beq_self_eq_true _;refine Ai [] [] func272 ?_;refine Aa @h ?_;exact Ad
theorem To(a b:Int):AC prog 166 [.it .i64 a,.it .i64 b] [] (.it .i64 (Ki a b)) []:=by
 have k1:=WN a;have k2:=WN b;unfold Ki;refine Ai [271] [] func166 ?_;refine run ?_;refine cp k1 ?_;refine run ?_;refine cp k2 ?_;by_cases h1:a<b
 ·rw[if_pos h1]
  refine Aa @h1 ?_;exact Ad
 ·rw[if_neg h1]
  by_cases h2:a>b
  ·rw[if_pos h2]
   refine Aa (an @h1 @h2) ?_;exact Ad
  ·rw[if_neg h2]
   refine Aa (an @h1 @h2) ?_;exact Ad
theorem Tn(a b:By):AC prog 167 [.st a,.st b] [] (.it .i64 (Jk a b)) []:=by
 have k1:=WM a;have k2:=WM b;unfold Jk Ik;refine Ai [272] [] func167 ?_;refine run ?_;refine cp k1 ?_;refine run ?_;refine cp k2 ?_;cases h1:Op.bytesLess a b with
 |true=>
  rw[if_pos rfl];refine Aa @h1 ?_;exact Ad
 | false=>
  rw[if_neg (by decide),Bool.false_or]
  cases h2:(!(a==b))with
  |true=>
   rw[if_pos rfl];refine Aa (an @h1 @h2) ?_;exact Ad
  |false=>
   rw[if_neg (by decide)]
   refine Aa (an @h1 @h2) ?_;exact Ad
theorem RI(x y:Int):AC prog 165 [.sl .ro [.it .i64 x,.it .i64 y]] [] (.it .i64 (OU x y)) []:=by
 unfold OU;by_cases hx:x=0
 ·subst hx
  by_cases hy:y=0
  ·subst hy
   refine Ai [] [] func165 ?_;refine run ?_;refine Bn (fun m e S=>e 3=.it .i64 0∧e 6=.sl .ro [.it .i64 0,.it .i64 0]∧e 7=.it .i64 2∧S=[]∧m≤2∧e 8=.it .i64 ((2-m:Nat):Int)) 2 ⟨Ab,Ab,Ab,rfl,Nat.le_refl _,Ab⟩ ?_
   rintro m e S ⟨s3,s6,s7,rfl,hm,s8⟩
   have:m=0∨m=1∨m=2:=by omega
   rcases this with rfl|rfl|rfl
   ·have s8:e 8=.it .i64 2:=s8
    refine Aa (A4 @s3 @s6 @s7 @s8) ?_;exact Ad
   ·have s8:e 8=.it .i64 1:=s8
    refine Aa (A4 @s3 @s6 @s7 @s8) ?_;exact As 0 (by omega) ⟨Ab,Ab,Ab,rfl,by omega,Ab⟩
   ·have s8:e 8=.it .i64 0:=s8
    refine Aa (A4 @s3 @s6 @s7 @s8) ?_;exact As 1 (by omega) ⟨Ab,Ab,Ab,rfl,by omega,Ab⟩
  ·have hy':(y !=0)=true:=Fw hy
   refine Ai [] [] func165 ?_;refine run ?_;refine LX fun K hK=>?_
   refine run ?_;refine hK _ _ ?_
   refine Aa @hy' ?_;exact Ad
 ·have hx':(x !=0)=true:=Fw hx
  rw[if_pos hx'];refine Ai [] [] func165 ?_;refine run ?_;refine DR ?_
  refine Aa @hx' ?_;exact Ad
def Gu(r r':Int)(d d':By):Int:=OU (Ki r r') (Jk d d')
end Pe
end
section
namespace Sr
open Tryz
section
variable {α:Type _} {lt:α→α→Bool}
abbrev Up(lt:α→α→Bool)(l:List α):Prop:=l.Pairwise fun a b=>lt a b=true
structure Strict(lt:α→α→Bool):Prop where
 irr:∀a,lt a a=false
 trans:∀{a b c},lt a b=true→lt b c=true→lt a c=true
structure Tot(lt:α→α→Bool)(l:List α):Prop where
 nodup:l.Nodup
 tri:∀x∈l,∀y∈l,lt x y=false→x=y∨lt y x=true
theorem Uy(h:Strict lt):∀{l m:List α},l.Perm m→Up lt l→Up lt m→l=m
 |[],m,hp,_,_=>(List.nil_perm.1 hp).symm
 | a ::l,m,hp,hl,hm=>by
  cases m with
  |nil=>exact absurd hp.symm (by simp)
  | cons b m=>
   have hl':=List.pairwise_cons.1 hl;have hm':=List.pairwise_cons.1 hm;have e:a=b:=by
    have h1:a∈b::m:=hp.mem_iff.1 (by simp)
    have h2:b∈a::l:=hp.mem_iff.2 (by simp)
    rcases List.mem_cons.1 h1 with h1|h1
    ·exact h1
    ·rcases List.mem_cons.1 h2 with h2|h2
     ·exact h2.symm
     ·have :=h.trans (hl'.1 b h2) (hm'.1 a h1)
      rw[h.irr]at this;cases this
   subst e;rw[Uy h ((List.perm_cons a).1 hp) hl'.2 hm'.2]
def MF(M:List α)(i j:Nat)(x y:α):List α:=(M.set i y).set j x
theorem Qy(A B C:List α)(x y:α):MF (A++x::(B++y::C)) A.length (A.length+(B.length+1)) x y=A++y::(B++x::C):=by
 unfold MF;rw[List.set_append_right _ _ (Nat.le_refl _),Nat.sub_self,List.set_cons_zero,List.set_append_right _ _ (by omega),show A.length+(B.length+1)-A.length=B.length+1 by omega,List.set_cons_succ,List.set_append_right _ _ (Nat.le_refl _),Nat.sub_self,List.set_cons_zero]
theorem SA(A C:List α)(x:α):(A++x::C)[A.length]? = some x:=by
 rw[List.getElem?_append_right (Nat.le_refl _),Nat.sub_self,List.getElem?_cons_zero]
theorem Qq(h:Strict lt){U V:List α}{x:α}(hu:Up lt (U++V))(h1:∀W z,U=W++[z]→lt z x=true)(h2:∀y∈V,lt x y=true):Up lt (U++x::V):=by
 obtain⟨a1,a2,a3⟩:=List.pairwise_append.1 hu;have hx:∀y∈U,lt y x=true:=fun y hy=>by
  rcases List.eq_nil_or_concat U with rfl|⟨W,z,hW⟩
  ·simp at hy
  ·rw[List.concat_eq_append]at hW
   have hl:=h1 W z hW;subst hW;rcases List.mem_append.1 hy with hy|hy
   ·exact h.trans ((List.pairwise_append.1 a1).2.2 y hy z (by simp)) hl
   ·rw[List.mem_singleton.1 hy];exact hl
 refine List.pairwise_append.2 ⟨a1,List.pairwise_cons.2 ⟨h2,a2⟩,fun a ha b hb=>?_⟩
 rcases List.mem_cons.1 hb with rfl|hb
 ·exact hx a ha
 ·exact a3 a ha b hb
def Ci(lt:α→α→Bool)(l:List α):List α:=l.mergeSort fun a b=>!lt b a
theorem Lw(l:List α):(Ci lt l).Perm l:=List.mergeSort_perm l _
theorem IV(l:List α):(Ci lt l).length=l.length:=(Lw l).length_eq
theorem Zdb(h:Strict lt){l m:List α}(hp:m.Perm l)(hu:Up lt m)(hn:∀a b c,lt b a=false→lt c b=false→lt c a=false)(ha:∀a b,lt a b=true→lt b a=false):Ci lt l=m:=by
 have h1:(Ci lt l).Pairwise fun a b=>(!lt b a)=true:=List.pairwise_mergeSort (fun a b c h1 h2=>by
  simp only[Bool.not_eq_true']at *;exact hn a b c h1 h2) (fun a b=>by
  cases e:lt b a with
  |false=>simp
  |true=>simp[ha b a e]) l
 have hp':(Ci lt l).Perm m:=(Lw l).trans hp.symm;have hnd:(Ci lt l).Nodup:=hp'.nodup_iff.2 (List.Pairwise.imp (fun {a b} hab e=>by subst e;rw[h.irr]at hab;cases hab) hu)
 have htri:∀x∈m,∀y∈m,x=y∨lt x y=true∨lt y x=true:=by
  clear h1 hp' hnd hp;induction m with
  |nil=>intro x hx;simp at hx
  |cons a m ih=>
   have hu':=List.pairwise_cons.1 hu;intro x hx y hy;rcases List.mem_cons.1 hx with ex|hx<;>rcases List.mem_cons.1 hy with ey|hy
   ·exact .inl (ex.trans ey.symm)
   ·exact .inr (.inl (by rw[ex];exact hu'.1 y hy))
   ·exact .inr (.inr (by rw[ey];exact hu'.1 x hx))
   ·exact ih hu'.2 x hx y hy
 refine Uy h hp' ?_ hu
 have h2:=hnd.and h1;refine List.Pairwise.imp_of_mem (fun {a b} ma mb hab=>?_) h2
 rcases htri a (hp'.mem_iff.1 ma) b (hp'.mem_iff.1 mb)with e|e|e
 ·exact absurd e hab.1
 ·exact e
 ·have :=hab.2;rw[e]at this;cases this
end
end Sr
end
end Go.Proofs.YtchpmmjmimaigaaGreatDoor
