import Derived.Test.YtipfggegddlgdaaGreatDoorKw13
import Derived.Test.YtipfggegddlgdaaGreatDoorKw15
import Derived.Test.YtipfggegddlgdaaGreatDoorKw16
import Derived.Laws.Entries
set_option linter.unusedSectionVars false
set_option linter.unusedVariables false
set_option linter.unusedSimpArgs false
namespace Go.Proofs.YtipfggegddlgdaaGreatDoor
section
namespace Pe
open Tryz
open Go
variable [Tab]
set_option maxRecDepth 100000
theorem BC{n:Int}:IntKind.u64.wrap n=n % 18446744073709551616:=rfl
theorem D7{n:Nat}(h:n<18446744073709551616):IntKind.u64.wrap (n:Int)=(n:Int):=by rw[BC];omega
theorem bits_nat(op:BinOp)(f:Nat→Nat→Nat)(hop:(op=.and∧f=Nat.land)∨(op=.or∧f=Nat.lor))(a b:Nat)(ha:a<18446744073709551616)(hb:b<18446744073709551616)(k:IntKind)(hk:k=.u64∨k=.i64):
  Go.bits op k (a:Int) (b:Int)=k.wrap ((f a b:Nat):Int):=by
 have h1:(BitVec.ofInt 64 (a:Int)).toNat=a:=by rw[BitVec.ofInt_natCast,BitVec.toNat_ofNat];exact Nat.mod_eq_of_lt ha
 have h2:(BitVec.ofInt 64 (b:Int)).toNat=b:=by rw[BitVec.ofInt_natCast,BitVec.toNat_ofNat];exact Nat.mod_eq_of_lt hb
 rcases hop with⟨rfl,rfl⟩|⟨rfl,rfl⟩<;>rcases hk with rfl|rfl
 ·show IntKind.u64.wrap ((BitVec.ofInt 64 (a:Int)&&&BitVec.ofInt 64 (b:Int)).toNat:Int)=_
  rw[BitVec.toNat_and,h1,h2];rfl
 ·show IntKind.i64.wrap ((BitVec.ofInt 64 (a:Int)&&&BitVec.ofInt 64 (b:Int)).toNat:Int)=_
  rw[BitVec.toNat_and,h1,h2];rfl
 ·show IntKind.u64.wrap ((BitVec.ofInt 64 (a:Int)|||BitVec.ofInt 64 (b:Int)).toNat:Int)=_
  rw[BitVec.toNat_or,h1,h2];rfl
 ·show IntKind.i64.wrap ((BitVec.ofInt 64 (a:Int)|||BitVec.ofInt 64 (b:Int)).toNat:Int)=_
  rw[BitVec.toNat_or,h1,h2];rfl
theorem MF(a:Nat)(ha:a<18446744073709551616):Go.bits .and .u64 (a:Int) 4294967295=((a % 4294967296:Nat):Int):=by
 have :=bits_nat .and Nat.land (.inl ⟨rfl,rfl⟩) a 4294967295 ha (by omega) .u64 (.inl rfl)
 have e:Nat.land a 4294967295=a % 4294967296:=Nat.and_two_pow_sub_one_eq_mod a 32;rw[e]at this;exact this.trans (D7 (by omega))
theorem Zh5(a:Nat)(ha:a<9223372036854775808):Go.bits .and .i64 (a:Int) 1=((a % 2:Nat):Int):=by
 have :=bits_nat .and Nat.land (.inl ⟨rfl,rfl⟩) a 1 (by omega) (by omega) .i64 (.inr rfl)
 have e:Nat.land a 1=a % 2:=Nat.and_two_pow_sub_one_eq_mod a 1;rw[e]at this;exact this.trans (wrap64 (by omega) (by omega))
theorem Zdn(c a j:Nat)(ha:a<2^j)(h:c*2^j+a<18446744073709551616):Go.bits .or .u64 ((c*2^j:Nat):Int) (a:Int)=((c*2^j+a:Nat):Int):=by
 have :=bits_nat .or Nat.lor (.inr ⟨rfl,rfl⟩) (c*2^j) a (by omega) (by omega) .u64 (.inl rfl)
 have e:Nat.lor (c*2^j) a=c*2^j+a:=by
  show c*2^j|||a=_
  rw[Nat.mul_comm,←Nat.two_pow_add_eq_or_of_lt ha]
 rw[e]at this;exact this.trans (D7 h)
theorem Lw(n:Nat)(b:Int)(s:Nat)(h:b=(s:Int))(h':s≤64):MK .u64 (n:Int) b=some (.it .u64 ((n*2^s % 18446744073709551616:Nat):Int)):=by
 subst h;unfold MK;rw[if_pos (by omega)]
 congr 2
 rw[Int.toNat_natCast,show min s IntKind.u64.bits=s from Nat.min_eq_left h']
 rw[show((n:Int)*2^s)=((n*2^s:Nat):Int)from by push_cast;rfl,BC]
 omega
theorem ZdM(x0 x1 y0 y1:Nat):(x1*4294967296+x0)*(y1*4294967296+y0)=x1*y1*18446744073709551616+(x1*y0+x0*y1)*4294967296+x0*y0:=by
 grind
theorem ZdO(a b:Nat)(ha:a<2305843009213693952)(hb:b<2305843009213693952):AC prog 303 [.it .u64 a,.it .u64 b] [] (.tup [.it .u64 ((a*b / 18446744073709551616:Nat):Int),.it .u64 ((a*b % 18446744073709551616:Nat):Int)]) []:=by
 refine Ar [] [] func303 ?_;have hx0:=MF a (by omega)
 have hy0:=MF b (by omega)
 have hx1:=Ea a 32 32 rfl (by omega)
 have hy1:=Ea b 32 32 rfl (by omega)
 rw[show(2:Nat)^32=4294967296 from rfl]at hx1 hy1
 have hab:a*b=a / 4294967296*(b / 4294967296)*18446744073709551616+(a / 4294967296*(b % 4294967296)+a % 4294967296*(b / 4294967296))*4294967296+a % 4294967296*(b % 4294967296):=by
  rw[←ZdM,Nat.div_add_mod',Nat.div_add_mod']
 have b0:a % 4294967296≤4294967295:=by omega
 have b1:a / 4294967296≤536870911:=by omega
 have b2:b % 4294967296≤4294967295:=by omega
 have b3:b / 4294967296≤536870911:=by omega
 have habI:IntKind.u64.wrap ((a:Int)*(b:Int))=((a*b % 18446744073709551616:Nat):Int):=by
  rw[show(a:Int)*(b:Int)=((a*b:Nat):Int)from by push_cast;rfl,BC];omega
 generalize a % 4294967296=x0 at *;generalize a / 4294967296=x1 at *;generalize b % 4294967296=y0 at *;generalize b / 4294967296=y1 at *;have p00:x0*y0≤4294967295*4294967295:=Nat.mul_le_mul b0 b2;have p10:x1*y0≤536870911*4294967295:=Nat.mul_le_mul b1 b2;have p01:x0*y1≤4294967295*536870911:=Nat.mul_le_mul b0 b3;have p11:x1*y1≤536870911*536870911:=Nat.mul_le_mul b1 b3;have c00:((x0:Int)*(y0:Int))=((x0*y0:Nat):Int):=by push_cast;rfl
 have c10:((x1:Int)*(y0:Int))=((x1*y0:Nat):Int):=by push_cast;rfl
 have c01:((x0:Int)*(y1:Int))=((x0*y1:Nat):Int):=by push_cast;rfl
 have c11:((x1:Int)*(y1:Int))=((x1*y1:Nat):Int):=by push_cast;rfl
 generalize a*b=ab at *;generalize x0*y0=q00 at *;generalize x1*y0=q10 at *;generalize x0*y1=q01 at *;generalize x1*y1=q11 at *;have w00:IntKind.u64.wrap (q00:Int)=(q00:Int):=D7 (by omega)
 have w10:IntKind.u64.wrap (q10:Int)=(q10:Int):=D7 (by omega)
 have w01:IntKind.u64.wrap (q01:Int)=(q01:Int):=D7 (by omega)
 have w11:IntKind.u64.wrap (q11:Int)=(q11:Int):=D7 (by omega)
 have s00:=Ea q00 32 32 rfl (by omega)
 rw[show(2:Nat)^32=4294967296 from rfl]at s00
 obtain⟨t,et⟩:∃t,t=q10+q00 / 4294967296:=⟨_,rfl⟩
 have wt:IntKind.u64.wrap ((q10:Int)+((q00 / 4294967296:Nat):Int))=(t:Int):=by rw[BC];omega
 have st:=Ea t 32 32 rfl (by omega)
 rw[show(2:Nat)^32=4294967296 from rfl]at st
 have mt:=MF t (by omega)
 obtain⟨u,eu⟩:∃u,u=t % 4294967296+q01:=⟨_,rfl⟩
 have wu:IntKind.u64.wrap (((t % 4294967296:Nat):Int)+(q01:Int))=(u:Int):=by rw[BC];omega
 have su:=Ea u 32 32 rfl (by omega)
 rw[show(2:Nat)^32=4294967296 from rfl]at su
 have wv:IntKind.u64.wrap ((q11:Int)+((t / 4294967296:Nat):Int))=(q11:Int)+((t / 4294967296:Nat):Int):=by rw[BC];omega
 have wz:IntKind.u64.wrap ((q11:Int)+((t / 4294967296:Nat):Int)+((u / 4294967296:Nat):Int))=((ab / 18446744073709551616:Nat):Int):=by rw[BC];omega
 refine Ab (an @hx0 (an @hy0 (an @hx1 (an @hy1 (an @c00 (an @c10 (an @c01 (an @c11 (an @w00 (an @w10 (An @w01 @w11 @s00 @wt @st @mt @wu @su @wv @wz @habI))))))))))) ?_;exact Ad
structure Hv(p:Prop):Prop where
 out:p
theorem Zgj(u q1 r1:Nat)(hub:u<2305843009213693952)(eq1:u=q1*4294967295+r1):q1≤536870913:=by omega
theorem WY(q2 q:Nat)(h:q2≤536870913)(h':q≤4294967296):IntKind.u64.wrap (IntKind.u64.wrap ((q2:Int)*4294967296)+(q:Int))=((q2*4294967296+q:Nat):Int):=by rw[BC,BC];omega
theorem Zgl(u q1 r1:Nat)(hub:u<2305843009213693952)(eq1:u=q1*4294967295+r1)(hr1:r1<4294967295):IntKind.u64.wrap ((u:Int).tdiv 4294967295)=(q1:Int):=by rw[Int.tdiv_eq_ediv_of_nonneg (by omega),BC];omega
theorem W4(u q1 r1:Nat)(hub:u<18446744073709551616)(eq1:u=q1*4294967295+r1)(hr1:r1<4294967295):IntKind.u64.wrap ((u:Int)-IntKind.u64.wrap ((q1:Int)*4294967295))=(r1:Int):=by rw[BC,BC];omega
theorem Zgk(u q1 r1:Nat)(hub:u<18446744073709551616)(eq1:u=q1*4294967295+r1)(hr1:r1<4294967295):IntKind.u64.wrap ((u:Int).tdiv 4294967295)=(q1:Int):=by rw[Int.tdiv_eq_ediv_of_nonneg (by omega),BC];omega
theorem Zeg(n:Nat)(h:n<18446744073709551616)(hb:B5 n≤64):AC prog 343 [.it .u64 n] [] (.it .i64 (64-(B5 n:Int))) []:=by
 refine Ar [106] [] func343 ?_;refine run ?_;refine cp (U0 n h) ?_;refine run ?_;exact Ad
theorem W3(u q1 r1 a1:Nat)(eq1:u=q1*4294967295+r1)(hr1:r1<4294967295)(ha:a1<4294967296):u*4294967296+a1<(q1+1)*18446744073709551608:=by omega
theorem Mm(u q r a1:Nat)(e0:u=q*4294967295+r)(hc:4294967296*r+a1<q*4294967288):u*4294967296+a1<(q-1+1)*18446744073709551608∧u=(q-1)*4294967295+(r+4294967295):=by omega
theorem W2(u q r a1:Nat)(e0:u=q*4294967295+r)(hc:¬4294967296*r+a1<q*4294967288):q*18446744073709551608≤u*4294967296+a1:=by omega
theorem W1(u q r a1:Nat)(e0:u=q*4294967295+r)(hq:q<4294967297)(hbr:¬r+4294967295<4294967296):(q-1)*18446744073709551608≤u*4294967296+a1:=by omega
theorem W0(u v D q2 a1 a0 t w q:Nat)(hu:u*18446744073709551616+t=8*D)(ht:t=a1*4294967296+a0)(ev:v=u*4294967296+a1-q2*18446744073709551608)(hq:q2*18446744073709551608≤u*4294967296+a1)(ew:w=v*4294967296+a0-q*18446744073709551608)(hq':q*18446744073709551608≤v*4294967296+a0):D=(q2*4294967296+q)*2305843009213693951+w / 8∧8*(w / 8)=w:=by omega
theorem WZ(D Q w:Nat)(h:D=Q*2305843009213693951+w)(hw:w<2305843009213693951):D / 2305843009213693951=Q∧D % 2305843009213693951=w:=by omega
theorem Q0(u a1 q2 v:Nat)(ev:v=u*4294967296+a1-q2*18446744073709551608)(h:q2*18446744073709551608≤u*4294967296+a1)(h':u*4294967296+a1<(q2+1)*18446744073709551608):v<18446744073709551608:=by omega
theorem QZ(u a1 q2 v:Nat)(ev:v=u*4294967296+a1-q2*18446744073709551608)(hv:v<18446744073709551608)(h:q2*18446744073709551608≤u*4294967296+a1):IntKind.u64.wrap (IntKind.u64.wrap (IntKind.u64.wrap ((u:Int)*4294967296)+(a1:Int))-IntKind.u64.wrap ((q2:Int)*18446744073709551608))=(v:Int):=by rw[BC,BC,BC,BC];omega
theorem Zgi(v q r:Nat)(hv:v<18446744073709551608)(e0:v=q*4294967295+r):q≤4294967296:=by omega
theorem Zgh(v q r a0:Nat)(hv:v<18446744073709551608)(ha:a0<4294967296)(e0:v=q*4294967295+r)(hge:4294967296≤q):4294967296*r+a0<q*4294967288:=by omega
theorem WW(w:Nat)(h:w<18446744073709551608):w / 8<2305843009213693951:=by omega
theorem WX(v:Nat)(h:v<18446744073709551608):v<18446744073709551616:=by omega
theorem X3:B5 2305843009213693951=61:=by decide +kernel
set_option maxHeartbeats 6400000 in
theorem ZgJ(hi lo D:Nat)(hD:D=hi*18446744073709551616+lo)(hh:hi<288230376151711744)(hl:lo<18446744073709551616):
  AC prog 325 [.it .u64 hi,.it .u64 lo,.it .u64 2305843009213693951] [] (.tup [.it .u64 ((D / 2305843009213693951:Nat):Int),.it .u64 ((D % 2305843009213693951:Nat):Int)]) []:=by
 refine Ar [343] [] func325 ?_;by_cases h0:hi=0
 ·subst h0
  have hD:D=lo:=by omega
  subst hD;have e1:IntKind.u64.wrap ((D:Int).tdiv 2305843009213693951)=((D / 2305843009213693951:Nat):Int):=by rw[Int.tdiv_eq_ediv_of_nonneg (by omega),BC];omega
  have e2:(D:Int).tmod 2305843009213693951=((D % 2305843009213693951:Nat):Int):=by rw[Int.tmod_eq_emod_of_nonneg (by omega)];omega
  refine Ab (an @e1 @e2) ?_;exact Ad
 have hlead:=Zeg 2305843009213693951 (by omega) (by rw[X3];omega)
 rw[X3]at hlead;have k1:IntKind.u64.wrap (64-((61:Nat):Int))=3:=by decide +kernel
 have k2:IntKind.u64.wrap 61=61:=by decide +kernel
 have k3:MK .u64 2305843009213693951 3=some (.it .u64 18446744073709551608):=Lw 2305843009213693951 3 3 rfl (by omega)
 have k4:El .u64 18446744073709551608 32=some (.it .u64 4294967295):=Ea 18446744073709551608 32 32 rfl (by omega)
 have k5:Go.bits .and .u64 18446744073709551608 4294967295=4294967288:=MF 18446744073709551608 (by omega)
 have k6:=Lw hi 3 3 rfl (by omega)
 have k7:=Ea lo 61 61 rfl (by omega)
 have k8:=Lw lo 3 3 rfl (by omega)
 rw[show(2:Nat)^3=8 from rfl,Nat.mod_eq_of_lt (by omega)]at k6
 rw[show(2:Nat)^61=2305843009213693952 from rfl]at k7
 rw[show(2:Nat)^3=8 from rfl]at k8
 have k9:=Zdn hi (lo / 2305843009213693952) 3 (by omega) (by omega)
 rw[show(2:Nat)^3=8 from rfl]at k9
 have hu:(hi*8+lo / 2305843009213693952)*18446744073709551616+lo*8 % 18446744073709551616=8*D:=by omega
 have hub:hi*8+lo / 2305843009213693952<2305843009213693952:=by omega
 have hut:lo*8 % 18446744073709551616<18446744073709551616:=by omega
 generalize hi*8+lo / 2305843009213693952=u at *;generalize lo*8 % 18446744073709551616=t at *;have hu:=Hv.mk hu;clear hD;have k10:=Ea t 32 32 rfl (by omega)
 rw[show(2:Nat)^32=4294967296 from rfl]at k10
 have k11:=MF t hut;have ht:t=t / 4294967296*4294967296+t % 4294967296:=by omega
 have ha1:t / 4294967296<4294967296:=by omega
 have ha0:t % 4294967296<4294967296:=by omega
 generalize t / 4294967296=a1 at *;generalize t % 4294967296=a0 at *;obtain⟨q1,r1,eq1,hr1⟩:∃q r,u=q*4294967295+r∧r<4294967295:=⟨u / 4294967295,u % 4294967295,(Nat.div_add_mod' u 4294967295).symm,Nat.mod_lt _ (by decide)⟩
 have k12:=Zgl u q1 r1 hub eq1 hr1;have k13:=W4 u q1 r1 (by omega) eq1 hr1
 refine run ?_;refine cp hlead ?_;refine Ab (an @k1 (an @k2 (An @k3 @k4 @k5 @k6 @k7 @k8 @k9 @k10 @k11 @k12 @k13))) ?_;refine AN (fun m e S=>S=[]∧e 2=.it .u64 18446744073709551608∧e 8=.it .u64 3∧e 9=.it .u64 4294967295∧e 10=.it .u64 4294967288∧e 11=.it .u64 (u:Int)∧e 13=.it .u64 (a1:Int)∧e 14=.it .u64 (a0:Int) ∧
  ∃q r:Nat,e 15=.it .u64 (q:Int)∧e 16=.it .u64 (r:Int)∧u=q*4294967295+r∧q≤q1∧r<4294967296∧u*4294967296+a1<(q+1)*18446744073709551608∧q=m) q1
  ⟨rfl,Aa,Aa,Aa,Aa,Aa,Aa,Aa,q1,r1,Aa,Aa,eq1,Nat.le_refl _,Nat.lt_succ_of_lt hr1,W3 u q1 r1 a1 eq1 hr1 ha1,rfl⟩ ?_
 clear k1 k2 k3 k4 k5 k6 k7 k8 k9 k10 k11 k12 k13 hlead;rintro m e S ⟨rfl,s2,s8,s9,s10,s11,s13,s14,q,r,s15,s16,e0,hqq,hr,hup,rfl⟩
 have c1:IntKind.u64.wrap ((q:Int)*4294967288)=(q:Int)*4294967288:=by rw[BC];omega
 have c2:IntKind.u64.wrap (4294967296*(r:Int))=4294967296*(r:Int):=by rw[BC];omega
 have c3:IntKind.u64.wrap (4294967296*(r:Int)+(a1:Int))=4294967296*(r:Int)+(a1:Int):=by rw[BC];omega
 have hq32:q<4294967296:=by omega
 by_cases hc:4294967296*r+a1<q*4294967288
 focus
  have d1:IntKind.u64.wrap ((q:Int)-1)=((q-1:Nat):Int):=by rw[BC];omega
  have d2:IntKind.u64.wrap ((r:Int)+4294967295)=((r+4294967295:Nat):Int):=by rw[BC];omega
  by_cases hbr:r+4294967295<4294967296
  focus
   refine Ab (an @s2 (an @s8 (an @s9 (An @s10 @s11 @s13 @s14 @s15 @s16 @c1 @c2 @c3 @d1 @d2)))) ?_;exact Aj (q-1) (by omega) ⟨rfl,Aa,Aa,Aa,Aa,Aa,Aa,Aa,q-1,r+4294967295,Aa,Aa,(Mm _ q r _ e0 hc).2,by omega,hbr,(Mm _ q r _ e0 hc).1,rfl⟩
  refine Ab (an @s2 (an @s8 (an @s9 (An @s10 @s11 @s13 @s14 @s15 @s16 @c1 @c2 @c3 @d1 @d2)))) ?_;have hz:q-1≤q1∧(q-1)*18446744073709551608≤u*4294967296+a1∧u*4294967296+a1<(q-1+1)*18446744073709551608:=⟨by omega,W1 u q r a1 e0 (by omega) hbr,(Mm u q r a1 e0 hc).1⟩
  clear hc hbr d1 d2 c1 c2 c3 hup e0 hr;generalize q-1=q2 at *
 rotate_left;focus
  refine Ab (an @s2 (An @s8 @s9 @s10 @s11 @s13 @s14 @s15 @s16 @c1 @c2 @c3)) ?_;have hz:q≤q1∧q*18446744073709551608≤u*4294967296+a1∧u*4294967296+a1<(q+1)*18446744073709551608:=⟨hqq,W2 u q r a1 e0 hc,hup⟩;clear hc c1 c2 c3 hup e0 hr;generalize q=q2 at *
 all_goals
  obtain⟨z2,z3,z4⟩:=hz;have hq1:q2≤536870913:=Nat.le_trans z2 (Zgj u q1 r1 hub eq1);have ht0:=Hv.mk ht;obtain⟨v,ev⟩:∃v,v=u*4294967296+a1-q2*18446744073709551608:=⟨_,rfl⟩
  have hv:v<18446744073709551608:=Q0 u a1 q2 v ev z3 z4;have k1:=QZ u a1 q2 v ev hv z3;obtain⟨p1,s1,ep1,hs1⟩:∃q r,v=q*4294967295+r∧r<4294967295:=⟨v / 4294967295,v % 4294967295,(Nat.div_add_mod' v 4294967295).symm,Nat.mod_lt _ (by decide)⟩
  have k12:=Zgk v p1 s1 (WX v hv) ep1 hs1;have k13:=W4 v p1 s1 (WX v hv) ep1 hs1;have ev:=Hv.mk ev;have z3:=Hv.mk z3;clear z4 ht hub eq1 hr1 hut;have ht:=ht0;refine Ab (an @s2 (An @s8 @s9 @s10 @s11 @s13 @s14 @s15 @s16 @k1 @k12 @k13)) ?_;refine AN (fun m e S=>S=[]∧e 2=.it .u64 18446744073709551608∧e 8=.it .u64 3∧e 9=.it .u64 4294967295∧e 10=.it .u64 4294967288∧e 14=.it .u64 (a0:Int)∧e 15=.it .u64 (q2:Int)∧e 17=.it .u64 (v:Int) ∧
   ∃q r:Nat,e 18=.it .u64 (q:Int)∧e 16=.it .u64 (r:Int)∧v=q*4294967295+r∧q≤p1∧r<4294967296∧v*4294967296+a0<(q+1)*18446744073709551608∧q=m) p1
   ⟨rfl,Aa,Aa,Aa,Aa,Aa,Aa,Aa,p1,s1,Aa,Aa,ep1,Nat.le_refl _,Nat.lt_succ_of_lt hs1,W3 v p1 s1 a0 ep1 hs1 ha0,rfl⟩ ?_
  clear k1 k12 k13 s2 s8 s9 s10 s11 s13 s14 s15 s16;rintro m e S ⟨rfl,s2,s8,s9,s10,s14,s15,s17,q,r,s18,s16,e0,hqq,hr,hup,rfl⟩
  have c1:IntKind.u64.wrap ((q:Int)*4294967288)=(q:Int)*4294967288:=by rw[BC];omega
  have c2:IntKind.u64.wrap (4294967296*(r:Int))=4294967296*(r:Int):=by rw[BC];omega
  have c3:IntKind.u64.wrap (4294967296*(r:Int)+(a0:Int))=4294967296*(r:Int)+(a0:Int):=by rw[BC];omega
  have hq32:q≤4294967296:=Zgi v q r hv e0;have hgc:4294967296≤q→4294967296*r+a0<q*4294967288:=Zgh v q r a0 hv ha0 e0;by_cases hc:4294967296*r+a0<q*4294967288
  focus
   have hup1:=(Mm v q r a0 e0 hc).1;have e01:=(Mm v q r a0 e0 hc).2;have hle:=W1 v q r a0 e0 (by omega)
   clear hgc hup e0;have d1:IntKind.u64.wrap ((q:Int)-1)=((q-1:Nat):Int):=by rw[BC];omega
   have d2:IntKind.u64.wrap ((r:Int)+4294967295)=((r+4294967295:Nat):Int):=by rw[BC];omega
   by_cases hbr:r+4294967295<4294967296
   focus
    by_cases hge:4294967296≤q
    iterate 2
     ·refine Ab (an @s2 (an @s8 (an @s9 (An @s10 @s14 @s15 @s16 @s17 @s18 @c1 @c2 @c3 @d1 @d2)))) ?_
      exact Aj (q-1) (by omega) ⟨rfl,Aa,Aa,Aa,Aa,Aa,Aa,Aa,q-1,r+4294967295,Aa,Aa,e01,by omega,hbr,hup1,rfl⟩
   have hle:=hle hbr;have hp:q-1≤4294967296:=Nat.le_trans (Nat.sub_le _ _) hq32;by_cases hge:4294967296≤q
   all_goals
    generalize hpq:q-1=p at *;obtain⟨w,ew⟩:∃w,w=v*4294967296+a0-p*18446744073709551608:=⟨_,rfl⟩
    obtain⟨g1,g2⟩:=W0 u v D q2 a1 a0 t w p hu.out ht.out ev.out z3.out ew hle;have hw:=Q0 v a0 p w ew hle hup1;obtain⟨g3,g4⟩:=WZ D _ (w / 8) g1 (WW w hw);have f1:=WY q2 p hq1 hp;have f2:=QZ v a0 p w ew hw hle;have f3:=Ea w 3 3 rfl (by decide)
    rw[show(2:Nat)^3=8 from rfl]at f3
    rw[g3,g4];clear g1 g2 g3 g4 ew hw hle hup1 e01 hpq;refine Ab (an @s2 (an @s8 (an @s9 (an @s10 (an @s14 (an @s15 (An @s16 @s17 @s18 @c1 @c2 @c3 @d1 @d2 @f1 @f2 @f3))))))) ?_;exact Ad
  have hge:¬4294967296≤q:=fun h=>hc (hgc h)
  have hle:=W2 v q r a0 e0 hc;obtain⟨w,ew⟩:∃w,w=v*4294967296+a0-q*18446744073709551608:=⟨_,rfl⟩
  obtain⟨g1,g2⟩:=W0 u v D q2 a1 a0 t w q hu.out ht.out ev.out z3.out ew hle;have hw:=Q0 v a0 q w ew hle hup;obtain⟨g3,g4⟩:=WZ D _ (w / 8) g1 (WW w hw);have f1:=WY q2 q hq1 hq32;have f2:=QZ v a0 q w ew hw hle;have f3:=Ea w 3 3 rfl (by decide)
  rw[show(2:Nat)^3=8 from rfl]at f3
  rw[g3,g4];clear g1 g2 g3 g4 ew hw hle hup e0 hgc;refine Ab (an @s2 (an @s8 (an @s9 (an @s10 (An @s14 @s15 @s16 @s17 @s18 @c1 @c2 @c3 @f1 @f2 @f3))))) ?_;exact Ad
theorem Zcs(hi lo D:Nat)(hD:D=hi*18446744073709551616+lo)(hh:hi<288230376151711744)(hl:lo<18446744073709551616):
  AC prog 304 [.it .u64 hi,.it .u64 lo,.it .u64 2305843009213693951] [] (.it .u64 ((D % 2305843009213693951:Nat):Int)) []:=by
 refine Ar [325] [] func304 ?_;have e1:(hi:Int).tmod 2305843009213693951=(hi:Int):=by rw[Int.tmod_eq_emod_of_nonneg (by omega)];omega
 refine Ab @e1 ?_;refine cp (ZgJ hi lo D hD hh hl) ?_;refine run ?_;exact Ad
end Pe
namespace Pe
open Tryz
open Go Sg
variable [Tab]
set_option maxRecDepth 100000
theorem Zaa:IntKind.u64.wrap 2305843009213693951=2305843009213693951:=by decide +kernel
theorem NL(a m:Int)(hm:0<m)(hm':m<4611686018427387904)(ha:-9223372036854775808≤a∧a≤9223372036854775807):AC prog 147 [.it .i64 a,.it .i64 m] [] (.it .i64 (a % m)) []:=by
 refine Ar [] [] func147 ?_;have h1:a % m=if a.tmod m<0 then a.tmod m+m else a.tmod m:=by
  rw[Int.emod_eq_tmod];have hb:=Int.emod_nonneg a (show m≠0 by omega)
  have ht:=Int.tmod_lt_of_pos a hm;by_cases h0:0≤a
  ·have :=Int.tmod_nonneg m h0
   rw[if_pos (.inl h0),if_neg (by omega)];omega
  ·by_cases hd:m ∣ a
   ·rw[if_pos (.inr hd),Int.tmod_eq_zero_of_dvd hd];simp
   ·have hneg:a.tmod m<0:=by
     have h2:=Int.emod_eq_tmod (a:=a) (b:=m);rw[if_neg (by rintro(h|h);exact h0 h;exact hd h)]at h2
     have h3:=Int.emod_lt_of_pos a hm
     have:(m.natAbs:Int)=m:=by omega
     omega
    rw[if_neg (by rintro(h|h);exact h0 h;exact hd h),if_pos hneg]
    omega
 have h2:-m≤a.tmod m∧a.tmod m<m:=by
  have hb:=Int.emod_nonneg a (show m≠0 by omega)
  have hc:=Int.emod_lt_of_pos a hm;have ht:=Int.tmod_lt_of_pos a hm;split at h1<;>omega
 have hm0:m≠0:=by omega
 obtain⟨t,ht⟩:∃t,a.tmod m=t:=⟨_,rfl⟩
 rw[ht]at h1 h2;rw[h1];by_cases h0:t<0
 ·rw[if_pos h0]
  refine Ab (an @ht @hm0) ?_;exact Ad
 ·rw[if_neg h0]
  refine Ab (an @ht @hm0) ?_;exact Ad
theorem ZdN(a b:Int)(ha:-9223372036854775808≤a∧a≤9223372036854775807)(hb:-9223372036854775808≤b∧b≤9223372036854775807):AC prog 242 [.it .i64 a,.it .i64 b,.it .i64 2305843009213693951] [] (.it .i64 (Ja a b:Nat)) []:=by
 refine Ar [147,303,304] [] func242 ?_;unfold Ja;have a1:=Int.emod_nonneg a (show(2305843009213693951:Int)≠0 by omega)
 have a2:=Int.emod_lt_of_pos a (show(0:Int)<2305843009213693951 by omega)
 have b1:=Int.emod_nonneg b (show(2305843009213693951:Int)≠0 by omega)
 have b2:=Int.emod_lt_of_pos b (show(0:Int)<2305843009213693951 by omega)
 obtain⟨x,hx⟩:=Int.eq_ofNat_of_zero_le a1;obtain⟨y,hy⟩:=Int.eq_ofNat_of_zero_le b1;have ra:=NL a 2305843009213693951 (by omega) (by omega) ha
 have rb:=NL b 2305843009213693951 (by omega) (by omega) hb
 rw[hx]at ra a1 a2 ⊢;rw[hy]at rb b1 b2 ⊢;rw[Int.toNat_natCast,Int.toNat_natCast];have wx:=D7 (n:=x) (by omega)
 have wy:=D7 (n:=y) (by omega)
 have wP:=Zaa;have hxy:x*y<2305843009213693951*2305843009213693951:=Nat.mul_lt_mul'' (by omega) (by omega)
 have hm:=ZdO x y (by omega) (by omega)
 have hr:=Zcs (x*y / 18446744073709551616) (x*y % 18446744073709551616) (x*y) (by omega) (by omega) (by omega)
 have hz:x*y % 2305843009213693951<2305843009213693951:=Nat.mod_lt _ (by omega)
 refine run ?_;refine cp ra ?_;refine run ?_;refine cp rb ?_;refine Ab (A3 @wx @wy @wP) ?_;refine cp hm ?_;refine Ab (A3 @wx @wy @wP) ?_;refine cp hr ?_;refine run ?_;exact Ad
theorem QF(a b:Int)(ha:-9223372036854775808≤a∧a≤9223372036854775807)(hb:-9223372036854775808≤b∧b≤9223372036854775807):AC prog 148 [.it .i64 a,.it .i64 b] [] (.it .i64 (Ja a b:Nat)) []:=by
 refine Ar [242] [] func148 ?_;refine run ?_;refine cp (ZdN a b ha hb) ?_;refine run ?_;exact Ad
end Pe
namespace Pe
open Tryz
open Go Go.RowKit Co Sg
set_option maxRecDepth 100000
theorem Zbs(n i:Nat)(h:n<9223372036854775808)(h':i≤64):El .i64 (n:Int) (i:Int)=some (.it .i64 ((n / 2^i:Nat):Int)):=by
 unfold El;rw[if_pos (by omega),Int.toNat_natCast,show min i IntKind.i64.bits=i from Nat.min_eq_left h']
 congr 2
 rw[Int.fdiv_eq_ediv_of_nonneg _ (by exact Int.le_of_lt (Int.pow_pos (by omega)))]
 norm_cast
theorem ZhT(n:Nat):n<2^B5 n:=by
 unfold B5;split
 ·subst_vars;decide
 ·exact Nat.lt_log2_self
theorem ZhU{n:Nat}(h:n<9223372036854775808):B5 n≤63:=by
 unfold B5;split
 ·omega
 ·have :=(Nat.log2_lt (n:=n) (k:=63) (by assumption)).2 (by omega)
  omega
theorem ZcY{f r p e:Nat}(h:e=0):FQ f r p e=r:=by subst h;exact PQ f r p
set_option maxHeartbeats 1600000 in
theorem QG(a e:Int)(ha:-9223372036854775808≤a∧a≤9223372036854775807)(he:-9223372036854775808≤e∧e≤9223372036854775807):AC prog 80 [.it .i64 a,.it .i64 e] [] (.it .i64 (Ev a e:Nat)) []:=by
 refine Ar [147,106,148] [] func80 ?_;unfold Ev Bq;have a1:=Int.emod_nonneg a (show(2305843009213693951:Int)≠0 by omega)
 have a2:=Int.emod_lt_of_pos a (show(0:Int)<2305843009213693951 by omega)
 have ra:=NL a 2305843009213693951 (by omega) (by omega) ha
 obtain⟨x,hx⟩:=Int.eq_ofNat_of_zero_le a1;rw[hx]at ra a1 a2 ⊢;rw[Int.toNat_natCast,Nat.mod_eq_of_lt (show x<2305843009213693951 by omega)]
 have hE:∃n:Nat,n<9223372036854775808∧((if e<0 then(e % 2305843009213693950).toNat else e.toNat)=n)∧(if e<0 then e % 2305843009213693950 else e)=(n:Int):=by
  split
  ·exact⟨(e % 2305843009213693950).toNat,by omega,rfl,by omega⟩
  ·exact⟨e.toNat,by omega,rfl,by omega⟩
 obtain⟨n,hn,en,eI⟩:=hE;rw[en];have wn:=D7 (n:=n) (by omega)
 have hlen:=U0 n (by omega)
 have hb1:=ZhT n;have hb2:B5 n≤63:=ZhU (by omega)
 by_cases hneg:e<0
 focus
  rw[if_pos hneg]at eI;have re:=NL e 2305843009213693950 (by omega) (by omega) he
  rw[eI]at re;refine run ?_;refine cp re ?_;refine run ?_;refine cp ra ?_;refine Ab @wn ?_;refine cp hlen ?_
 rotate_left;focus
  rw[if_neg hneg]at eI;subst eI;refine run ?_;refine cp ra ?_;refine Ab @wn ?_;refine cp hlen ?_
 all_goals
  refine run ?_;refine AN (fun m e S=>S=[]∧e 1=.it .i64 (n:Int)∧e 16=.it .i64 (B5 n:Int) ∧ ∃i r p:Nat,e 17=.it .i64 (i:Int)∧e 5=.it .i64 (r:Int)∧e 6=.it .i64 (p:Int)∧i≤B5 n∧r<2305843009213693951∧p<2305843009213693951∧FQ 64 1 x n=FQ (64-i) r p (n / 2^i)∧m=B5 n-i) (B5 n)
   ⟨rfl,Aa,Aa,0,1,x,Aa,Aa,Aa,by omega,by decide,by omega,by simp,rfl⟩ ?_
  rintro m e S ⟨rfl,s1,s16,i,r,p,s17,s5,s6,hi,hr,hp,hpow,rfl⟩
  by_cases hlt:i<B5 n
  rotate_left
  ·obtain rfl:i=B5 n:=by omega
   rw[ZcY (f:=64-B5 n) (e:=n / 2^B5 n) (Nat.div_eq_of_lt hb1)]at hpow;rw[hpow];refine Ab (A5 @s1 @s16 @s17 @s5 @s6) ?_;exact Ad
  have hsh:=Zbs n i hn (by omega)
  have hq:n / 2^i<9223372036854775808:=Nat.lt_of_le_of_lt (Nat.div_le_self _ _) hn;have hand:=Zh5 (n / 2^i) hq;have h64:64-i=(64-(i+1))+1:=by omega
  have hd:n / 2^i / 2=n / 2^(i+1):=by rw[Nat.div_div_eq_div_mul,Nat.pow_succ]
  rw[h64,LK (64-(i+1)) r p,hd]at hpow;have mpp:=QF (p:Int) (p:Int) (by omega) (by omega)
  have mrp:=QF (r:Int) (p:Int) (by omega) (by omega)
  rw[Kf hp hp]at mpp;rw[Kf hr hp]at mrp;have lpp:p*p % 2305843009213693951<2305843009213693951:=Nat.mod_lt _ (by decide)
  have lrp:r*p % 2305843009213693951<2305843009213693951:=Nat.mod_lt _ (by decide)
  generalize n / 2^i=q at *;by_cases ho:q % 2=1
  ·rw[if_pos ho]at hpow
   have hoI:((q % 2:Nat):Int)=1:=by omega
   refine Ab (A8 @s1 @s16 @s17 @s5 @s6 @hsh @hand @hoI) ?_;refine cp mrp ?_;refine Ab (A5 @s1 @s16 @s17 @s5 @s6) ?_;refine cp mpp ?_;refine Ab (A5 @s1 @s16 @s17 @s5 @s6) ?_;exact Aj (B5 n-(i+1)) (by omega) ⟨rfl,Aa,Aa,i+1,r*p % 2305843009213693951,p*p % 2305843009213693951,Aa,Aa,Aa,by omega,lrp,lpp,hpow,rfl⟩
  ·rw[if_neg ho]at hpow
   have hoI:((q % 2:Nat):Int)=0:=by omega
   refine Ab (A8 @s1 @s16 @s17 @s5 @s6 @hsh @hand @hoI) ?_;refine cp mpp ?_;refine Ab (A5 @s1 @s16 @s17 @s5 @s6) ?_;exact Aj (B5 n-(i+1)) (by omega) ⟨rfl,Aa,Aa,i+1,r,p*p % 2305843009213693951,Aa,Aa,Aa,by omega,hr,lpp,hpow,rfl⟩
theorem Hp(a:Int)(b e:Nat)(h:a=(b:Int))(hb:b<2305843009213693951):Ev a (e:Int)=Bq b e:=by
 subst h;unfold Ev;rw[if_neg (by omega),Int.toNat_natCast,show((b:Int) % (2305843009213693951:Int)).toNat=b by omega]
theorem Zbl(l:By)(h:l.length≤140737488355328):AC prog 311 [.st l] [] (.it .i64 (Sm.num l:Nat)) []:=by
 refine AC.ofBelow (by kernel_rfl) fun w g cargs ht hargs=>?_
 rw[LX hargs];refine(ZdB ⟨l.toArray⟩ w (by simp[ByteArray.size];omega)).mono ?_
 rintro r w' ⟨rfl,rfl⟩
 exact⟨_,rfl,fun g'=>.it g' _ _,Below.refl _ _⟩
theorem Vo:∀(l:List By),List.intercalate [] l=l.flatten
 |[]=>rfl
 |[a]=>by simp[List.intercalate]
 |a::b::l=>by
  have :=Vo (b::l);unfold List.intercalate at this ⊢;simp only[List.intersperse,List.flatten_cons,List.nil_append]at this ⊢;rw[this]
theorem ZfG(l:List By):Ak (l.map AV.st)=l.map AV.st:=by
 induction l with
 |nil=>rfl
 |cons b l ih=>simp only[List.map_cons,Ak,List.flatMap_cons,AV.cells]at *;rw[ih];rfl
theorem ZeI(l:List By)(h:l.flatten.length≤140737488355328)(hl:0<l.length)(hl2:l.length≤1000000):AC prog 312 [Av l,.st []] [] (.st l.flatten) []:=by
 refine AC.ofBelow (by kernel_rfl) fun w g cargs ht hargs=>?_
 obtain⟨h1,h2⟩:=hargs;obtain⟨c0,c1,rfl⟩:∃c0 c1,cargs = #[c0,c1]:=by
  refine⟨cargs[0]'(by rw[h1];simp),cargs[1]'(by rw[h1];simp),?_⟩
  apply Array.ext
  ·simpa using h1
  ·intro i hi hj
   match i,hj with
   |0,_=>rfl
   |1,_=>rfl
 have r0:=h2 0 _ _ rfl rfl;have r1:=h2 1 _ _ rfl rfl;cases r1
 cases r0 with
 | sl _ _ _ A c sz cu hc hcm hsz hA k1 hr hm=>
  have hfl:=ZfG l;rw[hfl]at hA k1 hr;simp only[List.length_map]at hA hc k1 hr ⊢;obtain⟨b,o,rfl,hcell⟩:=hA hl;have hcu:∀(j:Nat) x,l[j]? = some x→cu j=.string ⟨x.toArray⟩:=fun j x hx=>by
   have :=hr j (.st x) (by rw[List.getElem?_map,hx];rfl)
   generalize cu j=y at this;cases this
   rfl
  have hj:Lib.join ((l.map fun x=>(⟨x.toArray⟩:ByteArray)).map (·.data.toList)) (⟨([]:By).toArray⟩:ByteArray).data.toList=l.flatten:=by
   rw[List.map_map,show((fun x:ByteArray=>x.data.toList)∘fun x:By=>(⟨x.toArray⟩:ByteArray))=id from by funext x;simp,List.map_id]
   exact Vo l
  have key:=Tryz.strings_Join b o c (l.map fun x=>(⟨x.toArray⟩:ByteArray)) ⟨([]:By).toArray⟩ w (fun j x hx=>by
    rw[List.getElem?_map]at hx
    obtain⟨y,hy,rfl⟩:=Option.map_eq_some_iff.1 hx;rw[(hcell j (List.getElem?_eq_some_iff.1 hy).1).2,hcu j y hy])
   (World.block_lt_of_cell? w _ (hcell 0 hl).2) (by rw[List.length_map];omega) (by rw[List.length_map];exact hc) (by rw[hj];exact h)
  rw[hj,List.length_map]at key;refine key.mono ?_
  rintro r w' ⟨rfl,hb⟩
  exact⟨_,rfl,fun g'=>.st g' _,hb⟩
theorem Zfi(l:List By)(h:l.flatten.length≤1000000000)(hl:0<l.length)(hl2:l.length≤1000000):AC prog 271 [Av l] [] (.it .i64 (Sg.hash l.flatten:Nat)) []:=by
 refine Ar [312,46,311] [] func271 ?_;have hs:(Sm.sha l.flatten).length≤140737488355328:=by show 32≤_;omega
 refine run ?_;refine cp (ZeI l (by omega) hl hl2) ?_
 refine run ?_;refine cp (Px l.flatten (by omega)) ?_
 refine run ?_;refine cp (Zbl _ hs) ?_;refine run ?_;exact Ad
theorem VG(a b c d:By):[a,b,c,d].flatten=a++b++c++d:=by simp
theorem LU(n:Int)(h:n<9223372036854775808):(Ai n).length≤9:=AI n h
theorem Nf(m:By)(h:m.length≤100000000):(text m).length≤100000009:=by
 have :=NW 8 m.length (by omega)
 unfold text;rw[List.length_append];omega
theorem Zhn(r p:Int)(m:By)(hm:m.length≤100000000)(hr:-9223372036854775808≤r∧r≤9223372036854775807)(hp:-9223372036854775808≤p∧p≤9223372036854775807):AC prog 186 [.it .i64 r,.it .i64 p,.st m] [] (.it .i64 (D3 r p m:Nat)) []:=by
 refine Ar [110,111,271] [] func186 ?_;have tw:(text Gb).length=5:=by rfl
 have tm:=Nf m hm;have l1:=LU r (by omega)
 have l2:=LU p (by omega)
 have hlt:=QA (text Gb++Ai r++Ai p++text m);unfold D3;have hh:=Zfi [text Gb,Ai r,Ai p,text m] (by rw[VG];simp only[List.length_append];omega) (by simp) (by simp)
 rw[VG]at hh;generalize Sg.hash (text Gb++Ai r++Ai p++text m)=h at *;have e:(h:Int).tmod 2305843009213693950=((h % 2305843009213693950:Nat):Int):=by rw[Int.tmod_eq_emod_of_nonneg (by omega)];omega
 refine run ?_;refine cp (EY Gb (by simp)) ?_
 refine run ?_;refine cp (DU r (by omega) (by omega)) ?_
 refine run ?_;refine cp (DU p (by omega) (by omega)) ?_
 refine run ?_;refine cp (EY m (by omega)) ?_
 refine run ?_;refine cp hh ?_;refine Ab @e ?_;exact Ad
abbrev E9(k:Key):AV:=.agg [.it .i64 k.secret,.it .i64 k.pub]
abbrev Lu(s:Sig):AV:=.agg [.it .i64 s.e,.it .i64 s.s]
theorem Ma(n:Int):AC prog 185 [.it .i64 n] [] (.bo (GN n)) []:=by
 refine Ar [] [] func185 ?_;unfold GN;by_cases h:0≤n
 ·rw[decide_eq_true h]
  refine run ?_;exact Ad
 ·rw[decide_eq_false h]
  refine run ?_;exact Ad
theorem Zaw(p:Int)(m:By)(s:Sig)(hm:m.length≤100000000)(hp:-9223372036854775808≤p∧p≤9223372036854775807)(hs:-9223372036854775808≤s.e∧s.e≤9223372036854775807):AC prog 112 [.it .i64 p,.st m,Lu s] [] (.bo (HQ p m s)) []:=by
 refine Ar [185,80,148,186] [] func112 ?_;unfold HQ;by_cases h1:1≤p
 rotate_left
 ·rw[decide_eq_false h1]
  refine run ?_;exact Ad
 by_cases h2:p<2305843009213693951
 rotate_left
 ·rw[decide_eq_true h1,decide_eq_false h2]
  refine run ?_;exact Ad
 rw[decide_eq_true h1,decide_eq_true h2];cases ie:GN s.e with
 |false=>
  refine run ?_;refine cp (Ma s.e) ?_;refine Ab @ie ?_;exact Ad
 | true=>
  cases is:GN s.s with
  |false=>
   refine run ?_;refine cp (Ma s.e) ?_;refine Ab @ie ?_;refine cp (Ma s.s) ?_;refine Ab @is ?_;exact Ad
  | true=>
   have re:0≤s.e∧s.e<2305843009213693950:=by simpa[GN] using ie
   have rs:0≤s.s∧s.s<2305843009213693950:=by simpa[GN] using is
   have x1:=QG 37 s.s (by omega) (by omega)
   have x2:=QG p (2305843009213693950-s.e) (by omega) (by omega)
   have e1:Ev 37 s.s=Bq 37 s.s.toNat:=by
    have :=Hp 37 37 s.s.toNat rfl (by decide)
    rwa[Int.toNat_of_nonneg rs.1]at this
   have e2:Ev p (2305843009213693950-s.e)=Bq p.toNat (2305843009213693950-s.e).toNat:=by
    have :=Hp p p.toNat (2305843009213693950-s.e).toNat (by omega) (by omega)
    rwa[Int.toNat_of_nonneg (by omega)]at this
   rw[e1]at x1;rw[e2]at x2;have l1:=GG 37 s.s.toNat;have l2:=GG p.toNat (2305843009213693950-s.e).toNat;have hmul:=QF (Bq 37 s.s.toNat:Nat) (Bq p.toNat (2305843009213693950-s.e).toNat:Nat) (by omega) (by omega)
   rw[Kf l1 l2]at hmul;change AC _ _ _ _ (.it .i64 ((Fg p s:Nat):Int)) _ at hmul;have hcl:Fg p s<2305843009213693951:=Nat.mod_lt _ (by decide)
   have hch:=Zhn (Fg p s:Nat) p m hm (by omega) (by omega)
   generalize Fg p s=c at *;generalize D3 (c:Int) p m=h at *;generalize Bq 37 s.s.toNat=y1 at *;generalize Bq p.toNat (2305843009213693950-s.e).toNat=y2 at *;refine run ?_;refine cp (Ma s.e) ?_;refine Ab @ie ?_;refine cp (Ma s.s) ?_;refine Ab @is ?_;refine cp x1 ?_;refine run ?_;refine cp x2 ?_;refine run ?_;refine cp hmul ?_;refine run ?_;refine cp hch ?_;refine run ?_;exact Ad
end Pe
end
end Go.Proofs.YtipfggegddlgdaaGreatDoor
