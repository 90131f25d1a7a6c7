import Derived.Test.YtchpmmjmimaigaaGreatDoorKh10
import Derived.Test.YtchpmmjmimaigaaGreatDoorKh14
import Derived.Test.YtchpmmjmimaigaaGreatDoorKh15
import Derived.Laws.Entries
set_option linter.unusedSectionVars false
set_option linter.unusedVariables false
set_option linter.unusedSimpArgs false
namespace Go.Proofs.YtchpmmjmimaigaaGreatDoor
section
namespace Pe
open Tryz
open Go
variable [Tab]
set_option maxRecDepth 100000
theorem AS{n:Int}:IntKind.u64.wrap n=n % 18446744073709551616:=rfl
theorem DZ{n:Nat}(h:n<18446744073709551616):IntKind.u64.wrap (n:Int)=(n:Int):=by rw[AS];omega
theorem bits_nat(op:BinOp)(f:Nat→Nat→Nat)(hop:(op=.and∧f=Nat.land)∨(op=.or∧f=Nat.lor))(a b:Nat)(ha:a<18446744073709551616)(hb:b<18446744073709551616)(k:IntKind)(hk:k=.u64∨k=.i64):
  Go.bits op k (a:Int) (b:Int)=k.wrap ((f a b:Nat):Int):=by
 have h1:(BitVec.ofInt 64 (a:Int)).toNat=a:=by rw[BitVec.ofInt_natCast,BitVec.toNat_ofNat];exact Nat.mod_eq_of_lt ha
 have h2:(BitVec.ofInt 64 (b:Int)).toNat=b:=by rw[BitVec.ofInt_natCast,BitVec.toNat_ofNat];exact Nat.mod_eq_of_lt hb
 rcases hop with⟨rfl,rfl⟩|⟨rfl,rfl⟩<;>rcases hk with rfl|rfl
 ·show IntKind.u64.wrap ((BitVec.ofInt 64 (a:Int)&&&BitVec.ofInt 64 (b:Int)).toNat:Int)=_
  rw[BitVec.toNat_and,h1,h2];rfl
 ·show IntKind.i64.wrap ((BitVec.ofInt 64 (a:Int)&&&BitVec.ofInt 64 (b:Int)).toNat:Int)=_
  rw[BitVec.toNat_and,h1,h2];rfl
 ·show IntKind.u64.wrap ((BitVec.ofInt 64 (a:Int)|||BitVec.ofInt 64 (b:Int)).toNat:Int)=_
  rw[BitVec.toNat_or,h1,h2];rfl
 ·show IntKind.i64.wrap ((BitVec.ofInt 64 (a:Int)|||BitVec.ofInt 64 (b:Int)).toNat:Int)=_
  rw[BitVec.toNat_or,h1,h2];rfl
theorem Kw(a:Nat)(ha:a<18446744073709551616):Go.bits .and .u64 (a:Int) 4294967295=((a % 4294967296:Nat):Int):=by
 have :=bits_nat .and Nat.land (.inl ⟨rfl,rfl⟩) a 4294967295 ha (by omega) .u64 (.inl rfl)
 have e:Nat.land a 4294967295=a % 4294967296:=Nat.and_two_pow_sub_one_eq_mod a 32;rw[e]at this;exact this.trans (DZ (by omega))
theorem Zkh(a:Nat)(ha:a<9223372036854775808):Go.bits .and .i64 (a:Int) 1=((a % 2:Nat):Int):=by
 have :=bits_nat .and Nat.land (.inl ⟨rfl,rfl⟩) a 1 (by omega) (by omega) .i64 (.inr rfl)
 have e:Nat.land a 1=a % 2:=Nat.and_two_pow_sub_one_eq_mod a 1;rw[e]at this;exact this.trans (wrap64 (by omega) (by omega))
theorem Wi(c a j:Nat)(ha:a<2^j)(h:c*2^j+a<18446744073709551616):Go.bits .or .u64 ((c*2^j:Nat):Int) (a:Int)=((c*2^j+a:Nat):Int):=by
 have :=bits_nat .or Nat.lor (.inr ⟨rfl,rfl⟩) (c*2^j) a (by omega) (by omega) .u64 (.inl rfl)
 have e:Nat.lor (c*2^j) a=c*2^j+a:=by
  show c*2^j|||a=_
  rw[Nat.mul_comm,←Nat.two_pow_add_eq_or_of_lt ha]
 rw[e]at this;exact this.trans (DZ h)
theorem IW(n:Nat)(b:Int)(s:Nat)(h:b=(s:Int))(h':s≤64):Jt .u64 (n:Int) b=some (.it .u64 ((n*2^s % 18446744073709551616:Nat):Int)):=by
 subst h;unfold Jt;rw[if_pos (by omega)]
 congr 2
 rw[Int.toNat_natCast,show min s IntKind.u64.bits=s from Nat.min_eq_left h']
 rw[show((n:Int)*2^s)=((n*2^s:Nat):Int)from by push_cast;rfl,AS]
 omega
theorem Zgi(x0 x1 y0 y1:Nat):(x1*4294967296+x0)*(y1*4294967296+y0)=x1*y1*18446744073709551616+(x1*y0+x0*y1)*4294967296+x0*y0:=by
 grind
theorem WT(a b:Nat)(ha:a<2305843009213693952)(hb:b<2305843009213693952):AC prog 283 [.it .u64 a,.it .u64 b] [] (.tup [.it .u64 ((a*b / 18446744073709551616:Nat):Int),.it .u64 ((a*b % 18446744073709551616:Nat):Int)]) []:=by
 refine AC.enter [] [] func283 rfl (by decide) (by decide) (Nat.le_of_ble_eq_true rfl) (by kernel_rfl) ?_;refine Al ?_
 have hx0:=Kw a (by omega)
 have hy0:=Kw b (by omega)
 have hx1:=Dc a 32 32 rfl (by omega)
 have hy1:=Dc b 32 32 rfl (by omega)
 rw[show(2:Nat)^32=4294967296 from rfl]at hx1 hy1
 have hab:a*b=a / 4294967296*(b / 4294967296)*18446744073709551616+(a / 4294967296*(b % 4294967296)+a % 4294967296*(b / 4294967296))*4294967296+a % 4294967296*(b % 4294967296):=by
  rw[←Zgi,Nat.div_add_mod',Nat.div_add_mod']
 have b0:a % 4294967296≤4294967295:=by omega
 have b1:a / 4294967296≤536870911:=by omega
 have b2:b % 4294967296≤4294967295:=by omega
 have b3:b / 4294967296≤536870911:=by omega
 have habI:IntKind.u64.wrap ((a:Int)*(b:Int))=((a*b % 18446744073709551616:Nat):Int):=by
  rw[show(a:Int)*(b:Int)=((a*b:Nat):Int)from by push_cast;rfl,AS];omega
 generalize a % 4294967296=x0 at *;generalize a / 4294967296=x1 at *;generalize b % 4294967296=y0 at *;generalize b / 4294967296=y1 at *;have p00:x0*y0≤4294967295*4294967295:=Nat.mul_le_mul b0 b2;have p10:x1*y0≤536870911*4294967295:=Nat.mul_le_mul b1 b2;have p01:x0*y1≤4294967295*536870911:=Nat.mul_le_mul b0 b3;have p11:x1*y1≤536870911*536870911:=Nat.mul_le_mul b1 b3;have c00:((x0:Int)*(y0:Int))=((x0*y0:Nat):Int):=by push_cast;rfl
 have c10:((x1:Int)*(y0:Int))=((x1*y0:Nat):Int):=by push_cast;rfl
 have c01:((x0:Int)*(y1:Int))=((x0*y1:Nat):Int):=by push_cast;rfl
 have c11:((x1:Int)*(y1:Int))=((x1*y1:Nat):Int):=by push_cast;rfl
 generalize a*b=ab at *;generalize x0*y0=q00 at *;generalize x1*y0=q10 at *;generalize x0*y1=q01 at *;generalize x1*y1=q11 at *;have w00:IntKind.u64.wrap (q00:Int)=(q00:Int):=DZ (by omega)
 have w10:IntKind.u64.wrap (q10:Int)=(q10:Int):=DZ (by omega)
 have w01:IntKind.u64.wrap (q01:Int)=(q01:Int):=DZ (by omega)
 have w11:IntKind.u64.wrap (q11:Int)=(q11:Int):=DZ (by omega)
 have s00:=Dc q00 32 32 rfl (by omega)
 rw[show(2:Nat)^32=4294967296 from rfl]at s00
 obtain⟨t,et⟩:∃t,t=q10+q00 / 4294967296:=⟨_,rfl⟩
 have wt:IntKind.u64.wrap ((q10:Int)+((q00 / 4294967296:Nat):Int))=(t:Int):=by rw[AS];omega
 have st:=Dc t 32 32 rfl (by omega)
 rw[show(2:Nat)^32=4294967296 from rfl]at st
 have mt:=Kw t (by omega)
 obtain⟨u,eu⟩:∃u,u=t % 4294967296+q01:=⟨_,rfl⟩
 have wu:IntKind.u64.wrap (((t % 4294967296:Nat):Int)+(q01:Int))=(u:Int):=by rw[AS];omega
 have su:=Dc u 32 32 rfl (by omega)
 rw[show(2:Nat)^32=4294967296 from rfl]at su
 have wv:IntKind.u64.wrap ((q11:Int)+((t / 4294967296:Nat):Int))=(q11:Int)+((t / 4294967296:Nat):Int):=by rw[AS];omega
 have wz:IntKind.u64.wrap ((q11:Int)+((t / 4294967296:Nat):Int)+((u / 4294967296:Nat):Int))=((ab / 18446744073709551616:Nat):Int):=by rw[AS];omega
 refine Aa (an @hx0 (an @hy0 (an @hx1 (an @hy1 (an @c00 (an @c10 (an @c01 (an @c11 (an @w00 (an @w10 (AA @w01 @w11 @s00 @wt @st @mt @wu @su @wv @wz @habI))))))))))) ?_;exact Ad
structure Hv(p:Prop):Prop where
 out:p
theorem YH(u q1 r1:Nat)(hub:u<2305843009213693952)(eq1:u=q1*4294967295+r1):q1≤536870913:=by omega
theorem PE(q2 q:Nat)(h:q2≤536870913)(h':q≤4294967296):IntKind.u64.wrap (IntKind.u64.wrap ((q2:Int)*4294967296)+(q:Int))=((q2*4294967296+q:Nat):Int):=by rw[AS,AS];omega
theorem YT(u q1 r1:Nat)(hub:u<2305843009213693952)(eq1:u=q1*4294967295+r1)(hr1:r1<4294967295):IntKind.u64.wrap ((u:Int).tdiv 4294967295)=(q1:Int):=by rw[Int.tdiv_eq_ediv_of_nonneg (by omega),AS];omega
theorem PF(u q1 r1:Nat)(hub:u<18446744073709551616)(eq1:u=q1*4294967295+r1)(hr1:r1<4294967295):IntKind.u64.wrap ((u:Int)-IntKind.u64.wrap ((q1:Int)*4294967295))=(r1:Int):=by rw[AS,AS];omega
theorem YS(u q1 r1:Nat)(hub:u<18446744073709551616)(eq1:u=q1*4294967295+r1)(hr1:r1<4294967295):IntKind.u64.wrap ((u:Int).tdiv 4294967295)=(q1:Int):=by rw[Int.tdiv_eq_ediv_of_nonneg (by omega),AS];omega
theorem W9(n:Nat)(h:n<18446744073709551616)(hb:BX n≤64):AC prog 365 [.it .u64 n] [] (.it .i64 (64-(BX n:Int))) []:=by
 refine AC.enter [190] [] func365 rfl (by decide) (by decide) (Nat.le_of_ble_eq_true rfl) (by kernel_rfl) ?_;refine Al ?_
 refine run ?_;refine cp (R7 n h) ?_;refine run ?_;exact Ad
theorem YQ(u q1 r1 a1:Nat)(eq1:u=q1*4294967295+r1)(hr1:r1<4294967295)(ha:a1<4294967296):u*4294967296+a1<(q1+1)*18446744073709551608:=by omega
theorem Nv(u q r a1:Nat)(e0:u=q*4294967295+r)(hc:4294967296*r+a1<q*4294967288):u*4294967296+a1<(q-1+1)*18446744073709551608∧u=(q-1)*4294967295+(r+4294967295):=by omega
theorem YO(u q r a1:Nat)(e0:u=q*4294967295+r)(hc:¬4294967296*r+a1<q*4294967288):q*18446744073709551608≤u*4294967296+a1:=by omega
theorem YM(u q r a1:Nat)(e0:u=q*4294967295+r)(hq:q<4294967297)(hbr:¬r+4294967295<4294967296):(q-1)*18446744073709551608≤u*4294967296+a1:=by omega
theorem YK(u v D q2 a1 a0 t w q:Nat)(hu:u*18446744073709551616+t=8*D)(ht:t=a1*4294967296+a0)(ev:v=u*4294967296+a1-q2*18446744073709551608)(hq:q2*18446744073709551608≤u*4294967296+a1)(ew:w=v*4294967296+a0-q*18446744073709551608)(hq':q*18446744073709551608≤v*4294967296+a0):D=(q2*4294967296+q)*2305843009213693951+w / 8∧8*(w / 8)=w:=by omega
theorem YI(D Q w:Nat)(h:D=Q*2305843009213693951+w)(hw:w<2305843009213693951):D / 2305843009213693951=Q∧D % 2305843009213693951=w:=by omega
theorem S5(u a1 q2 v:Nat)(ev:v=u*4294967296+a1-q2*18446744073709551608)(h:q2*18446744073709551608≤u*4294967296+a1)(h':u*4294967296+a1<(q2+1)*18446744073709551608):v<18446744073709551608:=by omega
theorem SZ(u a1 q2 v:Nat)(ev:v=u*4294967296+a1-q2*18446744073709551608)(hv:v<18446744073709551608)(h:q2*18446744073709551608≤u*4294967296+a1):IntKind.u64.wrap (IntKind.u64.wrap (IntKind.u64.wrap ((u:Int)*4294967296)+(a1:Int))-IntKind.u64.wrap ((q2:Int)*18446744073709551608))=(v:Int):=by rw[AS,AS,AS,AS];omega
theorem Zin(v q r:Nat)(hv:v<18446744073709551608)(e0:v=q*4294967295+r):q≤4294967296:=by omega
theorem Zil(v q r a0:Nat)(hv:v<18446744073709551608)(ha:a0<4294967296)(e0:v=q*4294967295+r)(hge:4294967296≤q):4294967296*r+a0<q*4294967288:=by omega
theorem YD(w:Nat)(h:w<18446744073709551608):w / 8<2305843009213693951:=by omega
theorem YF(v:Nat)(h:v<18446744073709551608):v<18446744073709551616:=by omega
theorem ZP:BX 2305843009213693951=61:=by decide +kernel
set_option maxHeartbeats 6400000 in
theorem ZiK(hi lo D:Nat)(hD:D=hi*18446744073709551616+lo)(hh:hi<288230376151711744)(hl:lo<18446744073709551616):
  AC prog 339 [.it .u64 hi,.it .u64 lo,.it .u64 2305843009213693951] [] (.tup [.it .u64 ((D / 2305843009213693951:Nat):Int),.it .u64 ((D % 2305843009213693951:Nat):Int)]) []:=by
 refine AC.enter [365] [] func339 rfl (by decide) (by decide) (Nat.le_of_ble_eq_true rfl) (by kernel_rfl) ?_;refine Al ?_
 by_cases h0:hi=0
 ·subst h0
  have hD:D=lo:=by omega
  subst hD;have e1:IntKind.u64.wrap ((D:Int).tdiv 2305843009213693951)=((D / 2305843009213693951:Nat):Int):=by rw[Int.tdiv_eq_ediv_of_nonneg (by omega),AS];omega
  have e2:(D:Int).tmod 2305843009213693951=((D % 2305843009213693951:Nat):Int):=by rw[Int.tmod_eq_emod_of_nonneg (by omega)];omega
  refine Aa (an @e1 @e2) ?_;exact Ad
 have hlead:=W9 2305843009213693951 (by omega) (by rw[ZP];omega)
 rw[ZP]at hlead;have k1:IntKind.u64.wrap (64-((61:Nat):Int))=3:=by decide +kernel
 have k2:IntKind.u64.wrap 61=61:=by decide +kernel
 have k3:Jt .u64 2305843009213693951 3=some (.it .u64 18446744073709551608):=IW 2305843009213693951 3 3 rfl (by omega)
 have k4:G3 .u64 18446744073709551608 32=some (.it .u64 4294967295):=Dc 18446744073709551608 32 32 rfl (by omega)
 have k5:Go.bits .and .u64 18446744073709551608 4294967295=4294967288:=Kw 18446744073709551608 (by omega)
 have k6:=IW hi 3 3 rfl (by omega)
 have k7:=Dc lo 61 61 rfl (by omega)
 have k8:=IW lo 3 3 rfl (by omega)
 rw[show(2:Nat)^3=8 from rfl,Nat.mod_eq_of_lt (by omega)]at k6
 rw[show(2:Nat)^61=2305843009213693952 from rfl]at k7
 rw[show(2:Nat)^3=8 from rfl]at k8
 have k9:=Wi hi (lo / 2305843009213693952) 3 (by omega) (by omega)
 rw[show(2:Nat)^3=8 from rfl]at k9
 have hu:(hi*8+lo / 2305843009213693952)*18446744073709551616+lo*8 % 18446744073709551616=8*D:=by omega
 have hub:hi*8+lo / 2305843009213693952<2305843009213693952:=by omega
 have hut:lo*8 % 18446744073709551616<18446744073709551616:=by omega
 generalize hi*8+lo / 2305843009213693952=u at *;generalize lo*8 % 18446744073709551616=t at *;have hu:=Hv.mk hu;clear hD;have k10:=Dc t 32 32 rfl (by omega)
 rw[show(2:Nat)^32=4294967296 from rfl]at k10
 have k11:=Kw t hut;have ht:t=t / 4294967296*4294967296+t % 4294967296:=by omega
 have ha1:t / 4294967296<4294967296:=by omega
 have ha0:t % 4294967296<4294967296:=by omega
 generalize t / 4294967296=a1 at *;generalize t % 4294967296=a0 at *;obtain⟨q1,r1,eq1,hr1⟩:∃q r,u=q*4294967295+r∧r<4294967295:=⟨u / 4294967295,u % 4294967295,(Nat.div_add_mod' u 4294967295).symm,Nat.mod_lt _ (by decide)⟩
 have k12:=YT u q1 r1 hub eq1 hr1;have k13:=PF u q1 r1 (by omega) eq1 hr1
 refine run ?_;refine cp hlead ?_;refine Aa (an @k1 (an @k2 (AA @k3 @k4 @k5 @k6 @k7 @k8 @k9 @k10 @k11 @k12 @k13))) ?_;refine Bn (fun m e S=>S=[]∧e 2=.it .u64 18446744073709551608∧e 8=.it .u64 3∧e 9=.it .u64 4294967295∧e 10=.it .u64 4294967288∧e 11=.it .u64 (u:Int)∧e 13=.it .u64 (a1:Int)∧e 14=.it .u64 (a0:Int) ∧
  ∃q r:Nat,e 15=.it .u64 (q:Int)∧e 16=.it .u64 (r:Int)∧u=q*4294967295+r∧q≤q1∧r<4294967296∧u*4294967296+a1<(q+1)*18446744073709551608∧q=m) q1
  ⟨rfl,Ab,Ab,Ab,Ab,Ab,Ab,Ab,q1,r1,Ab,Ab,eq1,Nat.le_refl _,Nat.lt_succ_of_lt hr1,YQ u q1 r1 a1 eq1 hr1 ha1,rfl⟩ ?_
 clear k1 k2 k3 k4 k5 k6 k7 k8 k9 k10 k11 k12 k13 hlead;rintro m e S ⟨rfl,s2,s8,s9,s10,s11,s13,s14,q,r,s15,s16,e0,hqq,hr,hup,rfl⟩
 have c1:IntKind.u64.wrap ((q:Int)*4294967288)=(q:Int)*4294967288:=by rw[AS];omega
 have c2:IntKind.u64.wrap (4294967296*(r:Int))=4294967296*(r:Int):=by rw[AS];omega
 have c3:IntKind.u64.wrap (4294967296*(r:Int)+(a1:Int))=4294967296*(r:Int)+(a1:Int):=by rw[AS];omega
 have hq32:q<4294967296:=by omega
 by_cases hc:4294967296*r+a1<q*4294967288
 focus
  have d1:IntKind.u64.wrap ((q:Int)-1)=((q-1:Nat):Int):=by rw[AS];omega
  have d2:IntKind.u64.wrap ((r:Int)+4294967295)=((r+4294967295:Nat):Int):=by rw[AS];omega
  by_cases hbr:r+4294967295<4294967296
  focus
   refine Aa (an @s2 (an @s8 (an @s9 (AA @s10 @s11 @s13 @s14 @s15 @s16 @c1 @c2 @c3 @d1 @d2)))) ?_;exact As (q-1) (by omega) ⟨rfl,Ab,Ab,Ab,Ab,Ab,Ab,Ab,q-1,r+4294967295,Ab,Ab,(Nv _ q r _ e0 hc).2,by omega,hbr,(Nv _ q r _ e0 hc).1,rfl⟩
  refine Aa (an @s2 (an @s8 (an @s9 (AA @s10 @s11 @s13 @s14 @s15 @s16 @c1 @c2 @c3 @d1 @d2)))) ?_;have hz:q-1≤q1∧(q-1)*18446744073709551608≤u*4294967296+a1∧u*4294967296+a1<(q-1+1)*18446744073709551608:=⟨by omega,YM u q r a1 e0 (by omega) hbr,(Nv u q r a1 e0 hc).1⟩
  clear hc hbr d1 d2 c1 c2 c3 hup e0 hr;generalize q-1=q2 at *
 rotate_left;focus
  refine Aa (an @s2 (AA @s8 @s9 @s10 @s11 @s13 @s14 @s15 @s16 @c1 @c2 @c3)) ?_;have hz:q≤q1∧q*18446744073709551608≤u*4294967296+a1∧u*4294967296+a1<(q+1)*18446744073709551608:=⟨hqq,YO u q r a1 e0 hc,hup⟩;clear hc c1 c2 c3 hup e0 hr;generalize q=q2 at *
 all_goals
  obtain⟨z2,z3,z4⟩:=hz;have hq1:q2≤536870913:=Nat.le_trans z2 (YH u q1 r1 hub eq1);have ht0:=Hv.mk ht;obtain⟨v,ev⟩:∃v,v=u*4294967296+a1-q2*18446744073709551608:=⟨_,rfl⟩
  have hv:v<18446744073709551608:=S5 u a1 q2 v ev z3 z4;have k1:=SZ u a1 q2 v ev hv z3;obtain⟨p1,s1,ep1,hs1⟩:∃q r,v=q*4294967295+r∧r<4294967295:=⟨v / 4294967295,v % 4294967295,(Nat.div_add_mod' v 4294967295).symm,Nat.mod_lt _ (by decide)⟩
  have k12:=YS v p1 s1 (YF v hv) ep1 hs1;have k13:=PF v p1 s1 (YF v hv) ep1 hs1;have ev:=Hv.mk ev;have z3:=Hv.mk z3;clear z4 ht hub eq1 hr1 hut;have ht:=ht0;refine Aa (an @s2 (AA @s8 @s9 @s10 @s11 @s13 @s14 @s15 @s16 @k1 @k12 @k13)) ?_;refine Bn (fun m e S=>S=[]∧e 2=.it .u64 18446744073709551608∧e 8=.it .u64 3∧e 9=.it .u64 4294967295∧e 10=.it .u64 4294967288∧e 14=.it .u64 (a0:Int)∧e 15=.it .u64 (q2:Int)∧e 17=.it .u64 (v:Int) ∧
   ∃q r:Nat,e 18=.it .u64 (q:Int)∧e 16=.it .u64 (r:Int)∧v=q*4294967295+r∧q≤p1∧r<4294967296∧v*4294967296+a0<(q+1)*18446744073709551608∧q=m) p1
   ⟨rfl,Ab,Ab,Ab,Ab,Ab,Ab,Ab,p1,s1,Ab,Ab,ep1,Nat.le_refl _,Nat.lt_succ_of_lt hs1,YQ v p1 s1 a0 ep1 hs1 ha0,rfl⟩ ?_
  clear k1 k12 k13 s2 s8 s9 s10 s11 s13 s14 s15 s16;rintro m e S ⟨rfl,s2,s8,s9,s10,s14,s15,s17,q,r,s18,s16,e0,hqq,hr,hup,rfl⟩
  have c1:IntKind.u64.wrap ((q:Int)*4294967288)=(q:Int)*4294967288:=by rw[AS];omega
  have c2:IntKind.u64.wrap (4294967296*(r:Int))=4294967296*(r:Int):=by rw[AS];omega
  have c3:IntKind.u64.wrap (4294967296*(r:Int)+(a0:Int))=4294967296*(r:Int)+(a0:Int):=by rw[AS];omega
  have hq32:q≤4294967296:=Zin v q r hv e0;have hgc:4294967296≤q→4294967296*r+a0<q*4294967288:=Zil v q r a0 hv ha0 e0;by_cases hc:4294967296*r+a0<q*4294967288
  focus
   have hup1:=(Nv v q r a0 e0 hc).1;have e01:=(Nv v q r a0 e0 hc).2;have hle:=YM v q r a0 e0 (by omega)
   clear hgc hup e0;have d1:IntKind.u64.wrap ((q:Int)-1)=((q-1:Nat):Int):=by rw[AS];omega
   have d2:IntKind.u64.wrap ((r:Int)+4294967295)=((r+4294967295:Nat):Int):=by rw[AS];omega
   by_cases hbr:r+4294967295<4294967296
   focus
    by_cases hge:4294967296≤q
    iterate 2
     ·refine Aa (an @s2 (an @s8 (an @s9 (AA @s10 @s14 @s15 @s16 @s17 @s18 @c1 @c2 @c3 @d1 @d2)))) ?_
      exact As (q-1) (by omega) ⟨rfl,Ab,Ab,Ab,Ab,Ab,Ab,Ab,q-1,r+4294967295,Ab,Ab,e01,by omega,hbr,hup1,rfl⟩
   have hle:=hle hbr;have hp:q-1≤4294967296:=Nat.le_trans (Nat.sub_le _ _) hq32;by_cases hge:4294967296≤q
   all_goals
    generalize hpq:q-1=p at *;obtain⟨w,ew⟩:∃w,w=v*4294967296+a0-p*18446744073709551608:=⟨_,rfl⟩
    obtain⟨g1,g2⟩:=YK u v D q2 a1 a0 t w p hu.out ht.out ev.out z3.out ew hle;have hw:=S5 v a0 p w ew hle hup1;obtain⟨g3,g4⟩:=YI D _ (w / 8) g1 (YD w hw);have f1:=PE q2 p hq1 hp;have f2:=SZ v a0 p w ew hw hle;have f3:=Dc w 3 3 rfl (by decide)
    rw[show(2:Nat)^3=8 from rfl]at f3
    rw[g3,g4];clear g1 g2 g3 g4 ew hw hle hup1 e01 hpq;refine Aa (an @s2 (an @s8 (an @s9 (an @s10 (an @s14 (an @s15 (AA @s16 @s17 @s18 @c1 @c2 @c3 @d1 @d2 @f1 @f2 @f3))))))) ?_;exact Ad
  have hge:¬4294967296≤q:=fun h=>hc (hgc h)
  have hle:=YO v q r a0 e0 hc;obtain⟨w,ew⟩:∃w,w=v*4294967296+a0-q*18446744073709551608:=⟨_,rfl⟩
  obtain⟨g1,g2⟩:=YK u v D q2 a1 a0 t w q hu.out ht.out ev.out z3.out ew hle;have hw:=S5 v a0 q w ew hle hup;obtain⟨g3,g4⟩:=YI D _ (w / 8) g1 (YD w hw);have f1:=PE q2 q hq1 hq32;have f2:=SZ v a0 q w ew hw hle;have f3:=Dc w 3 3 rfl (by decide)
  rw[show(2:Nat)^3=8 from rfl]at f3
  rw[g3,g4];clear g1 g2 g3 g4 ew hw hle hup e0 hgc;refine Aa (an @s2 (an @s8 (an @s9 (an @s10 (AA @s14 @s15 @s16 @s17 @s18 @c1 @c2 @c3 @f1 @f2 @f3))))) ?_;exact Ad
theorem ZeR(hi lo D:Nat)(hD:D=hi*18446744073709551616+lo)(hh:hi<288230376151711744)(hl:lo<18446744073709551616):
  AC prog 284 [.it .u64 hi,.it .u64 lo,.it .u64 2305843009213693951] [] (.it .u64 ((D % 2305843009213693951:Nat):Int)) []:=by
 refine AC.enter [339] [] func284 rfl (by decide) (by decide) (Nat.le_of_ble_eq_true rfl) (by kernel_rfl) ?_;refine Al ?_
 have e1:(hi:Int).tmod 2305843009213693951=(hi:Int):=by rw[Int.tmod_eq_emod_of_nonneg (by omega)];omega
 refine Aa @e1 ?_;refine cp (ZiK hi lo D hD hh hl) ?_;refine run ?_;exact Ad
theorem YR(u q1 r1 a1:Nat)(eq1:u=q1*4294967295+r1)(hr1:r1<4294967295)(ha:a1<4294967296):u*4294967296+a1<(q1+1)*18446744073709551600:=by omega
theorem Nw(u q r a1:Nat)(e0:u=q*4294967295+r)(hc:4294967296*r+a1<q*4294967280):u*4294967296+a1<(q-1+1)*18446744073709551600∧u=(q-1)*4294967295+(r+4294967295):=by omega
theorem YP(u q r a1:Nat)(e0:u=q*4294967295+r)(hc:¬4294967296*r+a1<q*4294967280):q*18446744073709551600≤u*4294967296+a1:=by omega
theorem YN(u q r a1:Nat)(e0:u=q*4294967295+r)(hq:q<4294967297)(hbr:¬r+4294967295<4294967296):(q-1)*18446744073709551600≤u*4294967296+a1:=by omega
theorem YL(u v D q2 a1 a0 t w q:Nat)(hu:u*18446744073709551616+t=8*D)(ht:t=a1*4294967296+a0)(ev:v=u*4294967296+a1-q2*18446744073709551600)(hq:q2*18446744073709551600≤u*4294967296+a1)(ew:w=v*4294967296+a0-q*18446744073709551600)(hq':q*18446744073709551600≤v*4294967296+a0):D=(q2*4294967296+q)*2305843009213693950+w / 8∧8*(w / 8)=w:=by omega
theorem YJ(D Q w:Nat)(h:D=Q*2305843009213693950+w)(hw:w<2305843009213693950):D / 2305843009213693950=Q∧D % 2305843009213693950=w:=by omega
theorem S6(u a1 q2 v:Nat)(ev:v=u*4294967296+a1-q2*18446744073709551600)(h:q2*18446744073709551600≤u*4294967296+a1)(h':u*4294967296+a1<(q2+1)*18446744073709551600):v<18446744073709551600:=by omega
theorem S4(u a1 q2 v:Nat)(ev:v=u*4294967296+a1-q2*18446744073709551600)(hv:v<18446744073709551600)(h:q2*18446744073709551600≤u*4294967296+a1):IntKind.u64.wrap (IntKind.u64.wrap (IntKind.u64.wrap ((u:Int)*4294967296)+(a1:Int))-IntKind.u64.wrap ((q2:Int)*18446744073709551600))=(v:Int):=by rw[AS,AS,AS,AS];omega
theorem Zio(v q r:Nat)(hv:v<18446744073709551600)(e0:v=q*4294967295+r):q≤4294967296:=by omega
theorem Zim(v q r a0:Nat)(hv:v<18446744073709551600)(ha:a0<4294967296)(e0:v=q*4294967295+r)(hge:4294967296≤q):4294967296*r+a0<q*4294967280:=by omega
theorem YE(w:Nat)(h:w<18446744073709551600):w / 8<2305843009213693950:=by omega
theorem YG(v:Nat)(h:v<18446744073709551600):v<18446744073709551616:=by omega
theorem ZQ:BX 2305843009213693950=61:=by decide +kernel
set_option maxHeartbeats 6400000 in
theorem ZiL(hi lo D:Nat)(hD:D=hi*18446744073709551616+lo)(hh:hi<288230376151711744)(hl:lo<18446744073709551616):
  AC prog 339 [.it .u64 hi,.it .u64 lo,.it .u64 2305843009213693950] [] (.tup [.it .u64 ((D / 2305843009213693950:Nat):Int),.it .u64 ((D % 2305843009213693950:Nat):Int)]) []:=by
 refine AC.enter [365] [] func339 rfl (by decide) (by decide) (Nat.le_of_ble_eq_true rfl) (by kernel_rfl) ?_;refine Al ?_
 by_cases h0:hi=0
 ·subst h0
  have hD:D=lo:=by omega
  subst hD;have e1:IntKind.u64.wrap ((D:Int).tdiv 2305843009213693950)=((D / 2305843009213693950:Nat):Int):=by rw[Int.tdiv_eq_ediv_of_nonneg (by omega),AS];omega
  have e2:(D:Int).tmod 2305843009213693950=((D % 2305843009213693950:Nat):Int):=by rw[Int.tmod_eq_emod_of_nonneg (by omega)];omega
  refine Aa (an @e1 @e2) ?_;exact Ad
 have hlead:=W9 2305843009213693950 (by omega) (by rw[ZQ];omega)
 rw[ZQ]at hlead;have k1:IntKind.u64.wrap (64-((61:Nat):Int))=3:=by decide +kernel
 have k2:IntKind.u64.wrap 61=61:=by decide +kernel
 have k3:Jt .u64 2305843009213693950 3=some (.it .u64 18446744073709551600):=IW 2305843009213693950 3 3 rfl (by omega)
 have k4:G3 .u64 18446744073709551600 32=some (.it .u64 4294967295):=Dc 18446744073709551600 32 32 rfl (by omega)
 have k5:Go.bits .and .u64 18446744073709551600 4294967295=4294967280:=Kw 18446744073709551600 (by omega)
 have k6:=IW hi 3 3 rfl (by omega)
 have k7:=Dc lo 61 61 rfl (by omega)
 have k8:=IW lo 3 3 rfl (by omega)
 rw[show(2:Nat)^3=8 from rfl,Nat.mod_eq_of_lt (by omega)]at k6
 rw[show(2:Nat)^61=2305843009213693952 from rfl]at k7
 rw[show(2:Nat)^3=8 from rfl]at k8
 have k9:=Wi hi (lo / 2305843009213693952) 3 (by omega) (by omega)
 rw[show(2:Nat)^3=8 from rfl]at k9
 have hu:(hi*8+lo / 2305843009213693952)*18446744073709551616+lo*8 % 18446744073709551616=8*D:=by omega
 have hub:hi*8+lo / 2305843009213693952<2305843009213693952:=by omega
 have hut:lo*8 % 18446744073709551616<18446744073709551616:=by omega
 generalize hi*8+lo / 2305843009213693952=u at *;generalize lo*8 % 18446744073709551616=t at *;have hu:=Hv.mk hu;clear hD;have k10:=Dc t 32 32 rfl (by omega)
 rw[show(2:Nat)^32=4294967296 from rfl]at k10
 have k11:=Kw t hut;have ht:t=t / 4294967296*4294967296+t % 4294967296:=by omega
 have ha1:t / 4294967296<4294967296:=by omega
 have ha0:t % 4294967296<4294967296:=by omega
 generalize t / 4294967296=a1 at *;generalize t % 4294967296=a0 at *;obtain⟨q1,r1,eq1,hr1⟩:∃q r,u=q*4294967295+r∧r<4294967295:=⟨u / 4294967295,u % 4294967295,(Nat.div_add_mod' u 4294967295).symm,Nat.mod_lt _ (by decide)⟩
 have k12:=YT u q1 r1 hub eq1 hr1;have k13:=PF u q1 r1 (by omega) eq1 hr1
 refine run ?_;refine cp hlead ?_;refine Aa (an @k1 (an @k2 (AA @k3 @k4 @k5 @k6 @k7 @k8 @k9 @k10 @k11 @k12 @k13))) ?_;refine Bn (fun m e S=>S=[]∧e 2=.it .u64 18446744073709551600∧e 8=.it .u64 3∧e 9=.it .u64 4294967295∧e 10=.it .u64 4294967280∧e 11=.it .u64 (u:Int)∧e 13=.it .u64 (a1:Int)∧e 14=.it .u64 (a0:Int) ∧
  ∃q r:Nat,e 15=.it .u64 (q:Int)∧e 16=.it .u64 (r:Int)∧u=q*4294967295+r∧q≤q1∧r<4294967296∧u*4294967296+a1<(q+1)*18446744073709551600∧q=m) q1
  ⟨rfl,Ab,Ab,Ab,Ab,Ab,Ab,Ab,q1,r1,Ab,Ab,eq1,Nat.le_refl _,Nat.lt_succ_of_lt hr1,YR u q1 r1 a1 eq1 hr1 ha1,rfl⟩ ?_
 clear k1 k2 k3 k4 k5 k6 k7 k8 k9 k10 k11 k12 k13 hlead;rintro m e S ⟨rfl,s2,s8,s9,s10,s11,s13,s14,q,r,s15,s16,e0,hqq,hr,hup,rfl⟩
 have c1:IntKind.u64.wrap ((q:Int)*4294967280)=(q:Int)*4294967280:=by rw[AS];omega
 have c2:IntKind.u64.wrap (4294967296*(r:Int))=4294967296*(r:Int):=by rw[AS];omega
 have c3:IntKind.u64.wrap (4294967296*(r:Int)+(a1:Int))=4294967296*(r:Int)+(a1:Int):=by rw[AS];omega
 have hq32:q<4294967296:=by omega
 by_cases hc:4294967296*r+a1<q*4294967280
 focus
  have d1:IntKind.u64.wrap ((q:Int)-1)=((q-1:Nat):Int):=by rw[AS];omega
  have d2:IntKind.u64.wrap ((r:Int)+4294967295)=((r+4294967295:Nat):Int):=by rw[AS];omega
  by_cases hbr:r+4294967295<4294967296
  focus
   refine Aa (an @s2 (an @s8 (an @s9 (AA @s10 @s11 @s13 @s14 @s15 @s16 @c1 @c2 @c3 @d1 @d2)))) ?_;exact As (q-1) (by omega) ⟨rfl,Ab,Ab,Ab,Ab,Ab,Ab,Ab,q-1,r+4294967295,Ab,Ab,(Nw _ q r _ e0 hc).2,by omega,hbr,(Nw _ q r _ e0 hc).1,rfl⟩
  refine Aa (an @s2 (an @s8 (an @s9 (AA @s10 @s11 @s13 @s14 @s15 @s16 @c1 @c2 @c3 @d1 @d2)))) ?_;have hz:q-1≤q1∧(q-1)*18446744073709551600≤u*4294967296+a1∧u*4294967296+a1<(q-1+1)*18446744073709551600:=⟨by omega,YN u q r a1 e0 (by omega) hbr,(Nw u q r a1 e0 hc).1⟩
  clear hc hbr d1 d2 c1 c2 c3 hup e0 hr;generalize q-1=q2 at *
 rotate_left;focus
  refine Aa (an @s2 (AA @s8 @s9 @s10 @s11 @s13 @s14 @s15 @s16 @c1 @c2 @c3)) ?_;have hz:q≤q1∧q*18446744073709551600≤u*4294967296+a1∧u*4294967296+a1<(q+1)*18446744073709551600:=⟨hqq,YP u q r a1 e0 hc,hup⟩;clear hc c1 c2 c3 hup e0 hr;generalize q=q2 at *
 all_goals
  obtain⟨z2,z3,z4⟩:=hz;have hq1:q2≤536870913:=Nat.le_trans z2 (YH u q1 r1 hub eq1);have ht0:=Hv.mk ht;obtain⟨v,ev⟩:∃v,v=u*4294967296+a1-q2*18446744073709551600:=⟨_,rfl⟩
  have hv:v<18446744073709551600:=S6 u a1 q2 v ev z3 z4;have k1:=S4 u a1 q2 v ev hv z3;obtain⟨p1,s1,ep1,hs1⟩:∃q r,v=q*4294967295+r∧r<4294967295:=⟨v / 4294967295,v % 4294967295,(Nat.div_add_mod' v 4294967295).symm,Nat.mod_lt _ (by decide)⟩
  have k12:=YS v p1 s1 (YG v hv) ep1 hs1;have k13:=PF v p1 s1 (YG v hv) ep1 hs1;have ev:=Hv.mk ev;have z3:=Hv.mk z3;clear z4 ht hub eq1 hr1 hut;have ht:=ht0;refine Aa (an @s2 (AA @s8 @s9 @s10 @s11 @s13 @s14 @s15 @s16 @k1 @k12 @k13)) ?_;refine Bn (fun m e S=>S=[]∧e 2=.it .u64 18446744073709551600∧e 8=.it .u64 3∧e 9=.it .u64 4294967295∧e 10=.it .u64 4294967280∧e 14=.it .u64 (a0:Int)∧e 15=.it .u64 (q2:Int)∧e 17=.it .u64 (v:Int) ∧
   ∃q r:Nat,e 18=.it .u64 (q:Int)∧e 16=.it .u64 (r:Int)∧v=q*4294967295+r∧q≤p1∧r<4294967296∧v*4294967296+a0<(q+1)*18446744073709551600∧q=m) p1
   ⟨rfl,Ab,Ab,Ab,Ab,Ab,Ab,Ab,p1,s1,Ab,Ab,ep1,Nat.le_refl _,Nat.lt_succ_of_lt hs1,YR v p1 s1 a0 ep1 hs1 ha0,rfl⟩ ?_
  clear k1 k12 k13 s2 s8 s9 s10 s11 s13 s14 s15 s16;rintro m e S ⟨rfl,s2,s8,s9,s10,s14,s15,s17,q,r,s18,s16,e0,hqq,hr,hup,rfl⟩
  have c1:IntKind.u64.wrap ((q:Int)*4294967280)=(q:Int)*4294967280:=by rw[AS];omega
  have c2:IntKind.u64.wrap (4294967296*(r:Int))=4294967296*(r:Int):=by rw[AS];omega
  have c3:IntKind.u64.wrap (4294967296*(r:Int)+(a0:Int))=4294967296*(r:Int)+(a0:Int):=by rw[AS];omega
  have hq32:q≤4294967296:=Zio v q r hv e0;have hgc:4294967296≤q→4294967296*r+a0<q*4294967280:=Zim v q r a0 hv ha0 e0;by_cases hc:4294967296*r+a0<q*4294967280
  focus
   have hup1:=(Nw v q r a0 e0 hc).1;have e01:=(Nw v q r a0 e0 hc).2;have hle:=YN v q r a0 e0 (by omega)
   clear hgc hup e0;have d1:IntKind.u64.wrap ((q:Int)-1)=((q-1:Nat):Int):=by rw[AS];omega
   have d2:IntKind.u64.wrap ((r:Int)+4294967295)=((r+4294967295:Nat):Int):=by rw[AS];omega
   by_cases hbr:r+4294967295<4294967296
   focus
    by_cases hge:4294967296≤q
    iterate 2
     ·refine Aa (an @s2 (an @s8 (an @s9 (AA @s10 @s14 @s15 @s16 @s17 @s18 @c1 @c2 @c3 @d1 @d2)))) ?_
      exact As (q-1) (by omega) ⟨rfl,Ab,Ab,Ab,Ab,Ab,Ab,Ab,q-1,r+4294967295,Ab,Ab,e01,by omega,hbr,hup1,rfl⟩
   have hle:=hle hbr;have hp:q-1≤4294967296:=Nat.le_trans (Nat.sub_le _ _) hq32;by_cases hge:4294967296≤q
   all_goals
    generalize hpq:q-1=p at *;obtain⟨w,ew⟩:∃w,w=v*4294967296+a0-p*18446744073709551600:=⟨_,rfl⟩
    obtain⟨g1,g2⟩:=YL u v D q2 a1 a0 t w p hu.out ht.out ev.out z3.out ew hle;have hw:=S6 v a0 p w ew hle hup1;obtain⟨g3,g4⟩:=YJ D _ (w / 8) g1 (YE w hw);have f1:=PE q2 p hq1 hp;have f2:=S4 v a0 p w ew hw hle;have f3:=Dc w 3 3 rfl (by decide)
    rw[show(2:Nat)^3=8 from rfl]at f3
    rw[g3,g4];clear g1 g2 g3 g4 ew hw hle hup1 e01 hpq;refine Aa (an @s2 (an @s8 (an @s9 (an @s10 (an @s14 (an @s15 (AA @s16 @s17 @s18 @c1 @c2 @c3 @d1 @d2 @f1 @f2 @f3))))))) ?_;exact Ad
  have hge:¬4294967296≤q:=fun h=>hc (hgc h)
  have hle:=YP v q r a0 e0 hc;obtain⟨w,ew⟩:∃w,w=v*4294967296+a0-q*18446744073709551600:=⟨_,rfl⟩
  obtain⟨g1,g2⟩:=YL u v D q2 a1 a0 t w q hu.out ht.out ev.out z3.out ew hle;have hw:=S6 v a0 q w ew hle hup;obtain⟨g3,g4⟩:=YJ D _ (w / 8) g1 (YE w hw);have f1:=PE q2 q hq1 hq32;have f2:=S4 v a0 q w ew hw hle;have f3:=Dc w 3 3 rfl (by decide)
  rw[show(2:Nat)^3=8 from rfl]at f3
  rw[g3,g4];clear g1 g2 g3 g4 ew hw hle hup e0 hgc;refine Aa (an @s2 (an @s8 (an @s9 (an @s10 (AA @s14 @s15 @s16 @s17 @s18 @c1 @c2 @c3 @f1 @f2 @f3))))) ?_;exact Ad
theorem ZeS(hi lo D:Nat)(hD:D=hi*18446744073709551616+lo)(hh:hi<288230376151711744)(hl:lo<18446744073709551616):
  AC prog 284 [.it .u64 hi,.it .u64 lo,.it .u64 2305843009213693950] [] (.it .u64 ((D % 2305843009213693950:Nat):Int)) []:=by
 refine AC.enter [339] [] func284 rfl (by decide) (by decide) (Nat.le_of_ble_eq_true rfl) (by kernel_rfl) ?_;refine Al ?_
 have e1:(hi:Int).tmod 2305843009213693950=(hi:Int):=by rw[Int.tmod_eq_emod_of_nonneg (by omega)];omega
 refine Aa @e1 ?_;refine cp (ZiL hi lo D hD hh hl) ?_;refine run ?_;exact Ad
end Pe
namespace Pe
open Tryz
open Go Sg
variable [Tab]
set_option maxRecDepth 100000
theorem Zb4:IntKind.u64.wrap 2305843009213693951=2305843009213693951:=by decide +kernel
theorem Zb5:IntKind.u64.wrap 2305843009213693950=2305843009213693950:=by decide +kernel
theorem FL(a m:Int)(hm:0<m)(hm':m<4611686018427387904)(ha:-9223372036854775808≤a∧a≤9223372036854775807):AC prog 189 [.it .i64 a,.it .i64 m] [] (.it .i64 (a % m)) []:=by
 refine AC.enter [] [] func189 rfl (by decide) (by decide) (Nat.le_of_ble_eq_true rfl) (by kernel_rfl) ?_;refine Al ?_
 have h1:a % m=if a.tmod m<0 then a.tmod m+m else a.tmod m:=by
  rw[Int.emod_eq_tmod];have hb:=Int.emod_nonneg a (show m≠0 by omega)
  have ht:=Int.tmod_lt_of_pos a hm;by_cases h0:0≤a
  ·have :=Int.tmod_nonneg m h0
   rw[if_pos (.inl h0),if_neg (by omega)];omega
  ·by_cases hd:m ∣ a
   ·rw[if_pos (.inr hd),Int.tmod_eq_zero_of_dvd hd];simp
   ·have hneg:a.tmod m<0:=by
     have h2:=Int.emod_eq_tmod (a:=a) (b:=m);rw[if_neg (by rintro(h|h);exact h0 h;exact hd h)]at h2
     have h3:=Int.emod_lt_of_pos a hm
     have:(m.natAbs:Int)=m:=by omega
     omega
    rw[if_neg (by rintro(h|h);exact h0 h;exact hd h),if_pos hneg]
    omega
 have h2:-m≤a.tmod m∧a.tmod m<m:=by
  have hb:=Int.emod_nonneg a (show m≠0 by omega)
  have hc:=Int.emod_lt_of_pos a hm;have ht:=Int.tmod_lt_of_pos a hm;split at h1<;>omega
 have hm0:m≠0:=by omega
 obtain⟨t,ht⟩:∃t,a.tmod m=t:=⟨_,rfl⟩
 rw[ht]at h1 h2;rw[h1];by_cases h0:t<0
 ·rw[if_pos h0]
  refine Aa (an @ht @hm0) ?_;exact Ad
 ·rw[if_neg h0]
  refine Aa (an @ht @hm0) ?_;exact Ad
theorem ZaA(a b m:Int)(hm:0<m)(hm':m<4611686018427387904)(ha:-9223372036854775808≤a∧a≤9223372036854775807)(hb:-9223372036854775808≤b∧b≤9223372036854775807):AC prog 191 [.it .i64 a,.it .i64 b,.it .i64 m] [] (.it .i64 ((a % m+b % m) % m)) []:=by
 refine AC.enter [189] [] func191 rfl (by decide) (by decide) (Nat.le_of_ble_eq_true rfl) (by kernel_rfl) ?_;refine Al ?_
 have a1:=Int.emod_nonneg a (show m≠0 by omega)
 have a2:=Int.emod_lt_of_pos a hm;have b1:=Int.emod_nonneg b (show m≠0 by omega)
 have b2:=Int.emod_lt_of_pos b hm;refine run ?_;refine cp (FL a m hm hm' ha) ?_;refine run ?_;refine cp (FL b m hm hm' hb) ?_;refine run ?_;refine cp (FL (a % m+b % m) m hm hm' (by omega)) ?_
 refine run ?_;exact Ad
theorem Zgj(a b:Int)(ha:-9223372036854775808≤a∧a≤9223372036854775807)(hb:-9223372036854775808≤b∧b≤9223372036854775807):AC prog 192 [.it .i64 a,.it .i64 b,.it .i64 2305843009213693951] [] (.it .i64 (Ib a b:Nat)) []:=by
 refine AC.enter [189,283,284] [] func192 rfl (by decide) (by decide) (Nat.le_of_ble_eq_true rfl) (by kernel_rfl) ?_;refine Al ?_
 unfold Ib;have a1:=Int.emod_nonneg a (show(2305843009213693951:Int)≠0 by omega)
 have a2:=Int.emod_lt_of_pos a (show(0:Int)<2305843009213693951 by omega)
 have b1:=Int.emod_nonneg b (show(2305843009213693951:Int)≠0 by omega)
 have b2:=Int.emod_lt_of_pos b (show(0:Int)<2305843009213693951 by omega)
 obtain⟨x,hx⟩:=Int.eq_ofNat_of_zero_le a1;obtain⟨y,hy⟩:=Int.eq_ofNat_of_zero_le b1;have ra:=FL a 2305843009213693951 (by omega) (by omega) ha
 have rb:=FL b 2305843009213693951 (by omega) (by omega) hb
 rw[hx]at ra a1 a2 ⊢;rw[hy]at rb b1 b2 ⊢;rw[Int.toNat_natCast,Int.toNat_natCast];have wx:=DZ (n:=x) (by omega)
 have wy:=DZ (n:=y) (by omega)
 have wP:=Zb4;have hxy:x*y<2305843009213693951*2305843009213693951:=Nat.mul_lt_mul'' (by omega) (by omega)
 have hm:=WT x y (by omega) (by omega)
 have hr:=ZeR (x*y / 18446744073709551616) (x*y % 18446744073709551616) (x*y) (by omega) (by omega) (by omega)
 have hz:x*y % 2305843009213693951<2305843009213693951:=Nat.mod_lt _ (by omega)
 refine run ?_;refine cp ra ?_;refine run ?_;refine cp rb ?_;refine Aa (A3 @wx @wy @wP) ?_;refine cp hm ?_;refine Aa (A3 @wx @wy @wP) ?_;refine cp hr ?_;refine run ?_;exact Ad
theorem Zgk(a b:Int)(ha:-9223372036854775808≤a∧a≤9223372036854775807)(hb:-9223372036854775808≤b∧b≤9223372036854775807):AC prog 192 [.it .i64 a,.it .i64 b,.it .i64 2305843009213693950] [] (.it .i64 (EZ a b:Nat)) []:=by
 refine AC.enter [189,283,284] [] func192 rfl (by decide) (by decide) (Nat.le_of_ble_eq_true rfl) (by kernel_rfl) ?_;refine Al ?_
 unfold EZ;have a1:=Int.emod_nonneg a (show(2305843009213693950:Int)≠0 by omega)
 have a2:=Int.emod_lt_of_pos a (show(0:Int)<2305843009213693950 by omega)
 have b1:=Int.emod_nonneg b (show(2305843009213693950:Int)≠0 by omega)
 have b2:=Int.emod_lt_of_pos b (show(0:Int)<2305843009213693950 by omega)
 obtain⟨x,hx⟩:=Int.eq_ofNat_of_zero_le a1;obtain⟨y,hy⟩:=Int.eq_ofNat_of_zero_le b1;have ra:=FL a 2305843009213693950 (by omega) (by omega) ha
 have rb:=FL b 2305843009213693950 (by omega) (by omega) hb
 rw[hx]at ra a1 a2 ⊢;rw[hy]at rb b1 b2 ⊢;rw[Int.toNat_natCast,Int.toNat_natCast];have wx:=DZ (n:=x) (by omega)
 have wy:=DZ (n:=y) (by omega)
 have wP:=Zb5;have hxy:x*y<2305843009213693951*2305843009213693951:=Nat.mul_lt_mul'' (by omega) (by omega)
 have hm:=WT x y (by omega) (by omega)
 have hr:=ZeS (x*y / 18446744073709551616) (x*y % 18446744073709551616) (x*y) (by omega) (by omega) (by omega)
 have hz:x*y % 2305843009213693950<2305843009213693950:=Nat.mod_lt _ (by omega)
 refine run ?_;refine cp ra ?_;refine run ?_;refine cp rb ?_;refine Aa (A3 @wx @wy @wP) ?_;refine cp hm ?_;refine Aa (A3 @wx @wy @wP) ?_;refine cp hr ?_;refine run ?_;exact Ad
theorem FR(a b:Int)(ha:-9223372036854775808≤a∧a≤9223372036854775807)(hb:-9223372036854775808≤b∧b≤9223372036854775807):AC prog 133 [.it .i64 a,.it .i64 b] [] (.it .i64 (Ib a b:Nat)) []:=by
 refine AC.enter [192] [] func133 rfl (by decide) (by decide) (Nat.le_of_ble_eq_true rfl) (by kernel_rfl) ?_;refine Al ?_
 refine run ?_;refine cp (Zgj a b ha hb) ?_;refine run ?_;exact Ad
theorem ZhG(a b:Int)(ha:-9223372036854775808≤a∧a≤9223372036854775807)(hb:-9223372036854775808≤b∧b≤9223372036854775807):AC prog 117 [.it .i64 a,.it .i64 b] [] (.it .i64 (EZ a b:Nat)) []:=by
 refine AC.enter [192] [] func117 rfl (by decide) (by decide) (Nat.le_of_ble_eq_true rfl) (by kernel_rfl) ?_;refine Al ?_
 refine run ?_;refine cp (Zgk a b ha hb) ?_;refine run ?_;exact Ad
theorem ZhI(a b:Int)(ha:-9223372036854775808≤a∧a≤9223372036854775807)(hb:-9223372036854775808≤b∧b≤9223372036854775807):AC prog 116 [.it .i64 a,.it .i64 b] [] (.it .i64 ((a % 2305843009213693950+b % 2305843009213693950) % 2305843009213693950)) []:=by
 refine AC.enter [191] [] func116 rfl (by decide) (by decide) (Nat.le_of_ble_eq_true rfl) (by kernel_rfl) ?_;refine Al ?_
 refine run ?_;refine cp (ZaA a b 2305843009213693950 (by omega) (by omega) ha hb) ?_
 refine run ?_;exact Ad
end Pe
namespace Pe
open Tryz
open Go Go.RowKit Co Sg
set_option maxRecDepth 100000
theorem ZdJ(n i:Nat)(h:n<9223372036854775808)(h':i≤64):G3 .i64 (n:Int) (i:Int)=some (.it .i64 ((n / 2^i:Nat):Int)):=by
 unfold G3;rw[if_pos (by omega),Int.toNat_natCast,show min i IntKind.i64.bits=i from Nat.min_eq_left h']
 congr 2
 rw[Int.fdiv_eq_ediv_of_nonneg _ (by exact Int.le_of_lt (Int.pow_pos (by omega)))]
 norm_cast
theorem ZjX(n:Nat):n<2^BX n:=by
 unfold BX;split
 ·subst_vars;decide
 ·exact Nat.lt_log2_self
theorem ZjY{n:Nat}(h:n<9223372036854775808):BX n≤63:=by
 unfold BX;split
 ·omega
 ·have :=(Nat.log2_lt (n:=n) (k:=63) (by assumption)).2 (by omega)
  omega
theorem Zfs{f r p e:Nat}(h:e=0):Gc f r p e=r:=by subst h;exact Rp f r p
set_option maxHeartbeats 1600000 in
theorem Im(a e:Int)(ha:-9223372036854775808≤a∧a≤9223372036854775807)(he:-9223372036854775808≤e∧e≤9223372036854775807):AC prog 115 [.it .i64 a,.it .i64 e] [] (.it .i64 (Eh a e:Nat)) []:=by
 refine AC.enter [189,190,133] [] func115 rfl (by decide) (by decide) (Nat.le_of_ble_eq_true rfl) (by kernel_rfl) ?_;refine Al ?_
 unfold Eh AU;have a1:=Int.emod_nonneg a (show(2305843009213693951:Int)≠0 by omega)
 have a2:=Int.emod_lt_of_pos a (show(0:Int)<2305843009213693951 by omega)
 have ra:=FL a 2305843009213693951 (by omega) (by omega) ha
 obtain⟨x,hx⟩:=Int.eq_ofNat_of_zero_le a1;rw[hx]at ra a1 a2 ⊢;rw[Int.toNat_natCast,Nat.mod_eq_of_lt (show x<2305843009213693951 by omega)]
 have hE:∃n:Nat,n<9223372036854775808∧((if e<0 then(e % 2305843009213693950).toNat else e.toNat)=n)∧(if e<0 then e % 2305843009213693950 else e)=(n:Int):=by
  split
  ·exact⟨(e % 2305843009213693950).toNat,by omega,rfl,by omega⟩
  ·exact⟨e.toNat,by omega,rfl,by omega⟩
 obtain⟨n,hn,en,eI⟩:=hE;rw[en];have wn:=DZ (n:=n) (by omega)
 have hlen:=R7 n (by omega)
 have hb1:=ZjX n;have hb2:BX n≤63:=ZjY (by omega)
 by_cases hneg:e<0
 focus
  rw[if_pos hneg]at eI;have re:=FL e 2305843009213693950 (by omega) (by omega) he
  rw[eI]at re;refine run ?_;refine cp re ?_;refine run ?_;refine cp ra ?_;refine Aa @wn ?_;refine cp hlen ?_
 rotate_left;focus
  rw[if_neg hneg]at eI;subst eI;refine run ?_;refine cp ra ?_;refine Aa @wn ?_;refine cp hlen ?_
 all_goals
  refine run ?_;refine Bn (fun m e S=>S=[]∧e 1=.it .i64 (n:Int)∧e 16=.it .i64 (BX n:Int) ∧ ∃i r p:Nat,e 17=.it .i64 (i:Int)∧e 5=.it .i64 (r:Int)∧e 6=.it .i64 (p:Int)∧i≤BX n∧r<2305843009213693951∧p<2305843009213693951∧Gc 64 1 x n=Gc (64-i) r p (n / 2^i)∧m=BX n-i) (BX n)
   ⟨rfl,Ab,Ab,0,1,x,Ab,Ab,Ab,by omega,by decide,by omega,by simp,rfl⟩ ?_
  rintro m e S ⟨rfl,s1,s16,i,r,p,s17,s5,s6,hi,hr,hp,hpow,rfl⟩
  by_cases hlt:i<BX n
  rotate_left
  ·obtain rfl:i=BX n:=by omega
   rw[Zfs (f:=64-BX n) (e:=n / 2^BX n) (Nat.div_eq_of_lt hb1)]at hpow;rw[hpow];refine Aa (A5 @s1 @s16 @s17 @s5 @s6) ?_;exact Ad
  have hsh:=ZdJ n i hn (by omega)
  have hq:n / 2^i<9223372036854775808:=Nat.lt_of_le_of_lt (Nat.div_le_self _ _) hn;have hand:=Zkh (n / 2^i) hq;have h64:64-i=(64-(i+1))+1:=by omega
  have hd:n / 2^i / 2=n / 2^(i+1):=by rw[Nat.div_div_eq_div_mul,Nat.pow_succ]
  rw[h64,MW (64-(i+1)) r p,hd]at hpow;have mpp:=FR (p:Int) (p:Int) (by omega) (by omega)
  have mrp:=FR (r:Int) (p:Int) (by omega) (by omega)
  rw[LR hp hp]at mpp;rw[LR hr hp]at mrp;have lpp:p*p % 2305843009213693951<2305843009213693951:=Nat.mod_lt _ (by decide)
  have lrp:r*p % 2305843009213693951<2305843009213693951:=Nat.mod_lt _ (by decide)
  generalize n / 2^i=q at *;by_cases ho:q % 2=1
  ·rw[if_pos ho]at hpow
   have hoI:((q % 2:Nat):Int)=1:=by omega
   refine Aa (A8 @s1 @s16 @s17 @s5 @s6 @hsh @hand @hoI) ?_;refine cp mrp ?_;refine Aa (A5 @s1 @s16 @s17 @s5 @s6) ?_;refine cp mpp ?_;refine Aa (A5 @s1 @s16 @s17 @s5 @s6) ?_;exact As (BX n-(i+1)) (by omega) ⟨rfl,Ab,Ab,i+1,r*p % 2305843009213693951,p*p % 2305843009213693951,Ab,Ab,Ab,by omega,lrp,lpp,hpow,rfl⟩
  ·rw[if_neg ho]at hpow
   have hoI:((q % 2:Nat):Int)=0:=by omega
   refine Aa (A8 @s1 @s16 @s17 @s5 @s6 @hsh @hand @hoI) ?_;refine cp mpp ?_;refine Aa (A5 @s1 @s16 @s17 @s5 @s6) ?_;exact As (BX n-(i+1)) (by omega) ⟨rfl,Ab,Ab,i+1,r,p*p % 2305843009213693951,Ab,Ab,Ab,by omega,hr,lpp,hpow,rfl⟩
theorem HD(a:Int)(b e:Nat)(h:a=(b:Int))(hb:b<2305843009213693951):Eh a (e:Int)=AU b e:=by
 subst h;unfold Eh;rw[if_neg (by omega),Int.toNat_natCast,show((b:Int) % (2305843009213693951:Int)).toNat=b by omega]
theorem QE(l:By)(h:l.length≤140737488355328):AC prog 135 [.st l] [] (.it .i64 (Sm.num l:Nat)) []:=by
 refine AC.ofBelow (by kernel_rfl) fun w g cargs ht hargs=>?_
 rw[M6 hargs];refine(Zf5 ⟨l.toArray⟩ w (by simp[ByteArray.size];omega)).mono ?_
 rintro r w' ⟨rfl,rfl⟩
 exact⟨_,rfl,fun g'=>.it g' _ _,Below.refl _ _⟩
theorem Xz:∀(l:List By),List.intercalate [] l=l.flatten
 |[]=>rfl
 |[a]=>by simp[List.intercalate]
 |a::b::l=>by
  have :=Xz (b::l);unfold List.intercalate at this ⊢;simp only[List.intersperse,List.flatten_cons,List.nil_append]at this ⊢;rw[this]
theorem ZhT(l:List By):Ak (l.map AV.st)=l.map AV.st:=by
 induction l with
 |nil=>rfl
 |cons b l ih=>simp only[List.map_cons,Ak,List.flatMap_cons,AV.cells]at *;rw[ih];rfl
theorem Zg7(l:List By)(h:l.flatten.length≤140737488355328)(hl:0<l.length)(hl2:l.length≤1000000):AC prog 188 [B8 l,.st []] [] (.st l.flatten) []:=by
 refine AC.ofBelow (by kernel_rfl) fun w g cargs ht hargs=>?_
 obtain⟨h1,h2⟩:=hargs;obtain⟨c0,c1,rfl⟩:∃c0 c1,cargs = #[c0,c1]:=by
  refine⟨cargs[0]'(by rw[h1];simp),cargs[1]'(by rw[h1];simp),?_⟩
  apply Array.ext
  ·simpa using h1
  ·intro i hi hj
   match i,hj with
   |0,_=>rfl
   |1,_=>rfl
 have r0:=h2 0 _ _ rfl rfl;have r1:=h2 1 _ _ rfl rfl;cases r1
 cases r0 with
 | sl _ _ _ A c sz cu hc hcm hsz hA k1 hr hm=>
  have hfl:=ZhT l;rw[hfl]at hA k1 hr;simp only[List.length_map]at hA hc k1 hr ⊢;obtain⟨b,o,rfl,hcell⟩:=hA hl;have hcu:∀(j:Nat) x,l[j]? = some x→cu j=.string ⟨x.toArray⟩:=fun j x hx=>by
   have :=hr j (.st x) (by rw[List.getElem?_map,hx];rfl)
   generalize cu j=y at this;cases this
   rfl
  have hj:Lib.join ((l.map fun x=>(⟨x.toArray⟩:ByteArray)).map (·.data.toList)) (⟨([]:By).toArray⟩:ByteArray).data.toList=l.flatten:=by
   rw[List.map_map,show((fun x:ByteArray=>x.data.toList)∘fun x:By=>(⟨x.toArray⟩:ByteArray))=id from by funext x;simp,List.map_id]
   exact Xz l
  have key:=Tryz.strings_Join b o c (l.map fun x=>(⟨x.toArray⟩:ByteArray)) ⟨([]:By).toArray⟩ w (fun j x hx=>by
    rw[List.getElem?_map]at hx
    obtain⟨y,hy,rfl⟩:=Option.map_eq_some_iff.1 hx;rw[(hcell j (List.getElem?_eq_some_iff.1 hy).1).2,hcu j y hy])
   (World.block_lt_of_cell? w _ (hcell 0 hl).2) (by rw[List.length_map];omega) (by rw[List.length_map];exact hc) (by rw[hj];exact h)
  rw[hj,List.length_map]at key;refine key.mono ?_
  rintro r w' ⟨rfl,hb⟩
  exact⟨_,rfl,fun g'=>.st g' _,hb⟩
theorem Sx(l:List By)(h:l.flatten.length≤1000000000)(hl:0<l.length)(hl2:l.length≤1000000):AC prog 113 [B8 l] [] (.it .i64 (Sg.hash l.flatten:Nat)) []:=by
 refine AC.enter [188,50,135] [] func113 rfl (by decide) (by decide) (Nat.le_of_ble_eq_true rfl) (by kernel_rfl) ?_;refine Al ?_
 have hs:(Sm.sha l.flatten).length≤140737488355328:=by show 32≤_;omega
 refine run ?_;refine cp (Zg7 l (by omega) hl hl2) ?_
 refine run ?_;refine cp (MK l.flatten (by omega)) ?_
 refine run ?_;refine cp (QE _ hs) ?_;refine run ?_;exact Ad
theorem VG(h:Nat)(hh:h<2305843009213693952):AC prog 112 [.it .i64 (h:Int)] [] (.it .i64 (GO h:Nat)) []:=by
 refine AC.enter [] [] func112 rfl (by decide) (by decide) (Nat.le_of_ble_eq_true rfl) (by kernel_rfl) ?_;refine Al ?_
 unfold GO;have e:(h:Int).tmod 2305843009213693949=((h % 2305843009213693949:Nat):Int):=by rw[Int.tmod_eq_emod_of_nonneg (by omega)];omega
 have e2:(1:Int)+((h % 2305843009213693949:Nat):Int)=((1+h % 2305843009213693949:Nat):Int):=by omega
 refine Aa (an @e @e2) ?_;exact Ad
theorem XO(a b c d:By):[a,b,c,d].flatten=a++b++c++d:=by simp
theorem XP(a b c:By):[a,b,c].flatten=a++b++c:=by simp
theorem XQ(a b:By):[a,b].flatten=a++b:=by simp
theorem Ec(n:Int)(h:n<9223372036854775808):(Ah n).length≤9:=AD n h
theorem Lt(m:By)(h:m.length≤100000000):(text m).length≤100000009:=by
 have :=O2 8 m.length (by omega)
 unfold text;rw[List.length_append];omega
theorem Zz(r p:Int)(m:By)(hm:m.length≤100000000)(hr:-9223372036854775808≤r∧r≤9223372036854775807)(hp:-9223372036854775808≤p∧p≤9223372036854775807):AC prog 114 [.it .i64 r,.it .i64 p,.st m] [] (.it .i64 (D4 r p m:Nat)) []:=by
 refine AC.enter [66,67,113] [] func114 rfl (by decide) (by decide) (Nat.le_of_ble_eq_true rfl) (by kernel_rfl) ?_;refine Al ?_
 have tw:(text GG).length=5:=by rfl
 have tm:=Lt m hm;have l1:=Ec r (by omega)
 have l2:=Ec p (by omega)
 have hlt:=No (text GG++Ah r++Ah p++text m);unfold D4;have hh:=Sx [text GG,Ah r,Ah p,text m] (by rw[XO];simp only[List.length_append];omega) (by simp) (by simp)
 rw[XO]at hh;generalize Sg.hash (text GG++Ah r++Ah p++text m)=h at *;have e:(h:Int).tmod 2305843009213693950=((h % 2305843009213693950:Nat):Int):=by rw[Int.tmod_eq_emod_of_nonneg (by omega)];omega
 refine run ?_;refine cp (C2 GG (by simp)) ?_
 refine run ?_;refine cp (BQ r (by omega) (by omega)) ?_
 refine run ?_;refine cp (BQ p (by omega) (by omega)) ?_
 refine run ?_;refine cp (C2 m (by omega)) ?_
 refine run ?_;refine cp hh ?_;refine Aa @e ?_;exact Ad
abbrev Bx(k:Key):AV:=.agg [.it .i64 k.secret,.it .i64 k.pub]
abbrev JL(s:Sig):AV:=.agg [.it .i64 s.e,.it .i64 s.s]
theorem RP(s:Int)(hs:-9223372036854775808≤s∧s≤9223372036854775807):AC prog 87 [.it .i64 s] [] (Bx (Sg.keyOf s)) []:=by
 refine AC.enter [115] [] func87 rfl (by decide) (by decide) (Nat.le_of_ble_eq_true rfl) (by kernel_rfl) ?_;refine Al ?_
 unfold Sg.keyOf;by_cases h1:s<1
 ·rw[if_pos (.inl h1)]
  refine run ?_;exact Ad
 by_cases h2:2305843009213693949<s
 ·rw[if_pos (.inr h2)]
  refine run ?_;exact Ad
 ·rw[if_neg (by omega)]
  obtain⟨n,rfl⟩:=Int.eq_ofNat_of_zero_le (show 0≤s by omega)
  have he:=Im 37 (n:Int) (by omega) (by omega)
  rw[HD 37 37 n rfl (by decide)]at he
  refine run ?_;refine cp he ?_;refine run ?_;exact Ad
theorem ZgW(seed:By)(hm:seed.length≤100000000):AC prog 68 [.st seed] [] (Bx (Hq seed)) []:=by
 refine AC.enter [66,113,112,87] [] func68 rfl (by decide) (by decide) (Nat.le_of_ble_eq_true rfl) (by kernel_rfl) ?_;refine Al ?_
 have tm:=Lt seed hm;have tw:(text FF).length=4:=by rfl
 have hlt:=No (text FF++text seed);have hr:=LN (Sg.hash (text FF++text seed));have hh:=Sx [text FF,text seed] (by rw[XQ];simp only[List.length_append];omega) (by simp) (by simp)
 rw[XQ]at hh;unfold Hq;generalize Sg.hash (text FF++text seed)=h at *;refine run ?_;refine cp (C2 FF (by simp)) ?_
 refine run ?_;refine cp (C2 seed (by omega)) ?_
 refine run ?_;refine cp hh ?_;refine run ?_;refine cp (VG h hlt) ?_;refine run ?_;refine cp (RP (GO h) (by omega)) ?_
 refine run ?_;exact Ad
theorem ZgV(k q:Key):decide (k=q)=((k.secret==q.secret)&&(k.pub==q.pub)):=by
 obtain⟨a,b⟩:=k;obtain⟨c,d⟩:=q;rw[Bool.eq_iff_iff];simp
theorem Nh(k:Key)(hs:-9223372036854775808≤k.secret∧k.secret≤9223372036854775807):AC prog 43 [Bx k] [] (.bo k.right) []:=by
 refine AC.enter [87] [] func43 rfl (by decide) (by decide) (Nat.le_of_ble_eq_true rfl) (by kernel_rfl) ?_;refine Al ?_
 unfold Key.right;rw[ZgV];by_cases h1:1≤k.secret
 ·rw[decide_eq_true h1]
  refine run ?_;refine cp (RP k.secret hs) ?_;refine run ?_;exact Ad
 ·rw[decide_eq_false h1]
  refine run ?_;exact Ad
theorem Nm(n:Int):AC prog 168 [.it .i64 n] [] (.bo (HA n)) []:=by
 refine AC.enter [] [] func168 rfl (by decide) (by decide) (Nat.le_of_ble_eq_true rfl) (by kernel_rfl) ?_;refine Al ?_
 unfold HA;by_cases h:0≤n
 ·rw[decide_eq_true h]
  refine run ?_;exact Ad
 ·rw[decide_eq_false h]
  refine run ?_;exact Ad
theorem Zgb(k:Key)(m:By):1≤nonce k m∧nonce k m<2305843009213693950:=LN _
theorem QN(k:Key)(m:By)(hm:m.length≤100000000)(hs:-9223372036854775808≤k.secret∧k.secret≤9223372036854775807):AC prog 51 [Bx k,.st m] [] (JL (Do k m)) []:=by
 refine AC.enter [43,66,67,113,112,115,114,117,116] [] func51 rfl (by decide) (by decide) (Nat.le_of_ble_eq_true rfl) (by kernel_rfl) ?_;refine Al ?_
 unfold Do;refine run ?_;refine cp (Nh k hs) ?_;cases hr:k.right with
 |false=>
  rw[if_neg (by simp)]
  refine run ?_;exact Ad
 | true=>
  rw[if_pos rfl];obtain⟨p1,p2⟩:=Rm hr;obtain⟨q1,q2,_⟩:=Key.right_iff.1 hr;have tm:=Lt m hm;have tw:(text wNonce).length=6:=by rfl
  have l1:=Ec k.secret (by omega)
  have hh:=Sx [text wNonce,Ah k.secret,text m] (by rw[XP];simp only[List.length_append];omega) (by simp) (by simp)
  rw[XP]at hh;have hred:=VG (Sg.hash (text wNonce++Ah k.secret++text m)) (No _);change AC _ _ _ _ (.it .i64 (nonce k m:Nat)) _ at hred;obtain⟨n1,n2⟩:=Zgb k m;generalize nonce k m=u at *;have hexp:=Im 37 (u:Int) (by omega) (by omega)
  rw[HD 37 37 u rfl (by decide)]at hexp
  have hpl:=Fi 37 u;have hch:=Zz (AU 37 u:Nat) k.pub m hm (by omega) (by omega)
  have hel:=PP (AU 37 u:Nat) k.pub m;generalize D4 (AU 37 u:Nat) k.pub m=e at *;have hmul:=ZhG (e:Int) k.secret (by omega) (by omega)
  have hml:EZ e k.secret<2305843009213693950:=Nat.mod_lt _ (by decide)
  have hadd:=ZhI (u:Int) (EZ e k.secret:Nat) (by omega) (by omega)
  have hval:((u:Int) % 2305843009213693950+((EZ e k.secret:Nat):Int) % 2305843009213693950) % 2305843009213693950=(((u+e*k.secret.toNat) % 2305843009213693950:Nat):Int):=by
   have h1:EZ e k.secret=e*k.secret.toNat % 2305843009213693950:=by
    unfold EZ;rw[show((e:Int) % 2305843009213693950).toNat=e by omega,show(k.secret % 2305843009213693950).toNat=k.secret.toNat by omega]
   rw[h1];generalize e*k.secret.toNat=z;omega
  rw[hval]at hadd;refine run ?_;refine cp (C2 wNonce (by simp)) ?_
  refine run ?_;refine cp (BQ k.secret (by omega) (by omega)) ?_
  refine run ?_;refine cp (C2 m (by omega)) ?_
  refine run ?_;refine cp hh ?_;refine run ?_;refine cp hred ?_;refine run ?_;refine cp hexp ?_;refine run ?_;refine cp hch ?_;refine run ?_;refine cp hmul ?_;refine run ?_;refine cp hadd ?_;refine run ?_;exact Ad
theorem Oh(p:Int)(m:By)(s:Sig)(hm:m.length≤100000000)(hp:-9223372036854775808≤p∧p≤9223372036854775807)(hs:-9223372036854775808≤s.e∧s.e≤9223372036854775807):AC prog 95 [.it .i64 p,.st m,JL s] [] (.bo (IP p m s)) []:=by
 refine AC.enter [168,115,133,114] [] func95 rfl (by decide) (by decide) (Nat.le_of_ble_eq_true rfl) (by kernel_rfl) ?_;refine Al ?_
 unfold IP;by_cases h1:1≤p
 rotate_left
 ·rw[decide_eq_false h1]
  refine run ?_;exact Ad
 by_cases h2:p<2305843009213693951
 rotate_left
 ·rw[decide_eq_true h1,decide_eq_false h2]
  refine run ?_;exact Ad
 rw[decide_eq_true h1,decide_eq_true h2];cases ie:HA s.e with
 |false=>
  refine run ?_;refine cp (Nm s.e) ?_;refine Aa @ie ?_;exact Ad
 | true=>
  cases is:HA s.s with
  |false=>
   refine run ?_;refine cp (Nm s.e) ?_;refine Aa @ie ?_;refine cp (Nm s.s) ?_;refine Aa @is ?_;exact Ad
  | true=>
   have re:0≤s.e∧s.e<2305843009213693950:=by simpa[HA] using ie
   have rs:0≤s.s∧s.s<2305843009213693950:=by simpa[HA] using is
   have x1:=Im 37 s.s (by omega) (by omega)
   have x2:=Im p (2305843009213693950-s.e) (by omega) (by omega)
   have e1:Eh 37 s.s=AU 37 s.s.toNat:=by
    have :=HD 37 37 s.s.toNat rfl (by decide)
    rwa[Int.toNat_of_nonneg rs.1]at this
   have e2:Eh p (2305843009213693950-s.e)=AU p.toNat (2305843009213693950-s.e).toNat:=by
    have :=HD p p.toNat (2305843009213693950-s.e).toNat (by omega) (by omega)
    rwa[Int.toNat_of_nonneg (by omega)]at this
   rw[e1]at x1;rw[e2]at x2;have l1:=Fi 37 s.s.toNat;have l2:=Fi p.toNat (2305843009213693950-s.e).toNat;have hmul:=FR (AU 37 s.s.toNat:Nat) (AU p.toNat (2305843009213693950-s.e).toNat:Nat) (by omega) (by omega)
   rw[LR l1 l2]at hmul;change AC _ _ _ _ (.it .i64 ((Fv p s:Nat):Int)) _ at hmul;have hcl:Fv p s<2305843009213693951:=Nat.mod_lt _ (by decide)
   have hch:=Zz (Fv p s:Nat) p m hm (by omega) (by omega)
   generalize Fv p s=c at *;generalize D4 (c:Int) p m=h at *;generalize AU 37 s.s.toNat=y1 at *;generalize AU p.toNat (2305843009213693950-s.e).toNat=y2 at *;refine run ?_;refine cp (Nm s.e) ?_;refine Aa @ie ?_;refine cp (Nm s.s) ?_;refine Aa @is ?_;refine cp x1 ?_;refine run ?_;refine cp x2 ?_;refine run ?_;refine cp hmul ?_;refine run ?_;refine cp hch ?_;refine run ?_;exact Ad
end Pe
end
section
namespace Pe
open Tryz
open Go Go.RowKit
variable [Tab]
def CJ(md:Region.Mode)(ops:Array Oper)(k:Nat):Nat→Nat→Bool
 |0,j=>j==k
 |n+1,j=>j==k||(match ops[j]? with
  |none=>false
  |some oj=>oj.after.any fun e=>Region.binds md e&&CJ md ops k n e.on)
theorem Y3{md:Region.Mode}{ops:Array Oper}{k:Nat}{listed:Array Bool}(hinv:∀n j,CJ md ops k n j=true→listed.getD j true=false){j:Nat}(hj:j∈Region.ready md ops listed)(hne:j≠k)(n:Nat):CJ md ops k n j=false:=by
 have h0:(j==k)=false:=by simpa using hne
 cases n with
 |zero=>exact h0
 | succ n=>
  obtain⟨_,oj,hoj,hall⟩:=mem_ready.1 hj;cases hd:CJ md ops k (n+1) j with
  |false=>rfl
  |true=>
   exfalso;unfold CJ at hd;rw[h0,hoj,Bool.false_or]at hd;simp only at hd
   rw[Array.any_eq_true']at hd;obtain⟨e,he,h2⟩:=hd;simp only[Bool.and_eq_true]at h2;have h3:=hinv n e.on h2.2;have h1:=hall e he h2.1;rcases Nat.lt_or_ge e.on listed.size with h'|h'
   ·simp[h']at h3 h1;rw[h3]at h1;cases h1
   ·simp[Array.getElem?_eq_none h']at h1
def Po(cls:Op→Cls)(md:Region.Mode)(ops:Array Oper)(listed:Array Bool)(k:Nat):Bool:=
 match ops[k]? with
 |none=>false
 |some ok=>(List.range ops.size).all fun j=>
  match ops[j]? with
  |none=>true
  |some oj=>j==k||listed.getD j true||CJ md ops k 8 j||Hz cls ops ok oj
def R8(md:Region.Mode)(ops:Array Oper):Bool:=(List.range ops.size).all fun j=>match ops[j]? with
 |none=>true
 |some oj=>oj.after.all fun e=>!Region.binds md e||decide (e.on<j)
theorem ZgL{md:Region.Mode}{ops:Array Oper}(h:R8 md ops=true)(k:Nat):∀n j,CJ md ops k n j=true→k≤j:=by
 intro n;induction n with
 |zero=>intro j hj;unfold CJ at hj;have :=beq_iff_eq.1 hj;omega
 | succ n ih=>
  intro j hj;unfold CJ at hj;rw[Bool.or_eq_true]at hj;rcases hj with hj|hj
  ·have :=beq_iff_eq.1 hj;omega
  ·cases ho:ops[j]? with
   |none=>rw[ho]at hj;cases hj
   |some oj=>
    rw[ho]at hj;simp only at hj
    rw[Array.any_eq_true']at hj;obtain⟨e,he,h2⟩:=hj;simp only[Bool.and_eq_true]at h2;have h3:=ih e.on h2.2;have hlt:j<ops.size:=(Array.getElem?_eq_some_iff.1 ho).1
    have h4:=(List.all_eq_true.1 h) j (List.mem_range.2 hlt);rw[ho]at h4;simp only at h4
    have h5:=(Array.all_eq_true_iff_forall_mem.1 h4) e he;rw[h2.1]at h5
    have:e.on<j:=by simpa using h5
    omega
def Nb(cls:Op→Cls)(md:Region.Mode)(ops:Array Oper):Nat→Nat→Array Bool→Bool
 |0,_,listed=>(Region.ready md ops listed).isEmpty
 |fuel+1,k,listed=>(Region.ready md ops listed).contains k&&Po cls md ops listed k&&Nb cls md ops fuel (k+1) (listed.setIfInBounds k true)
def Pd(cls:Op→Cls)(ops:Array Oper):Bool:=R8 .any ops&&Nb cls .any ops ops.size 0 (Array.replicate ops.size false)
theorem X3{cls:Op→Cls}{md:Region.Mode}{ops:Array Oper}{listed:Array Bool}{k:Nat}{ok:Oper}(hk:ops[k]? = some ok)(h:Po cls md ops listed k=true):
  ∀(j:Nat) oj,ops[j]? = some oj→j≠k→listed.getD j true=false→(∀n,CJ md ops k n j=false)→Hz cls ops ok oj=true:=by
 intro j oj hj hne hun hno;unfold Po at h;rw[hk]at h;simp only at h
 have hlt:j<ops.size:=(Array.getElem?_eq_some_iff.1 hj).1
 have h1:=(List.all_eq_true.1 h) j (List.mem_range.2 hlt);rw[hj]at h1;simp only[Bool.or_eq_true,beq_iff_eq]at h1;rcases h1 with((h1|h1)|h1)|h1
 ·exact absurd h1 hne
 ·rw[hun]at h1;cases h1
 ·rw[hno 8]at h1;cases h1
 ·exact h1
section
variable {P:Program} {N N0:Nat} {w0:World} {g0:Gh} {pf rf:List FuncId}
theorem Uo{cls:Op→Cls}{md:Region.Mode}{ops:Array Oper}{Q:Af→Ae→Prop}{i:Nat}{oi:Oper}{v:AV}(hi:ops[i]? = some oi):
  ∀(fuel:Nat) (listed:Array Bool) (e:Af) (S Si:Ae),
   (∀n j,CJ md ops i n j=true→listed.getD j true=false) →
   (∀(j:Nat) oj,ops[j]? = some oj→j≠i→listed.getD j true=false→(∀n,CJ md ops i n j=false)→Hz cls ops oi oj=true) →
   i∈Region.ready md ops listed→Kz P cls ops oi e S v Si →
   D8 P cls md ops Q fuel (listed.setIfInBounds i true) (Pe.put e oi.dst v) Si→D8 P cls md ops Q (fuel+1) listed e S:=by
 intro fuel;induction fuel with
 | zero=>
  intro listed e S Si _ _ hr hy H;refine⟨fun h=>(by rw[h]at hr;cases hr),fun j hj=>?_⟩
  by_cases hji:j=i
  ·subst hji;exact hy.xOp hi H
  ·have :=ready_mono hj hji
   rw[H.1]at this;cases this
 | succ fuel ih=>
  intro listed e S Si hinv hfree hr hy H;refine⟨fun h=>(by rw[h]at hr;cases hr),fun j hj=>?_⟩
  by_cases hji:j=i
  ·subst hji;exact hy.xOp hi H
  ·have h1:=H.2 j (ready_mono hj hji)
   have hnd:=Y3 hinv hj hji;obtain⟨hjun,oj,hoj,hall⟩:=mem_ready.1 hj;have h2:=T8 hoj (hfree j oj hoj hji hjun hnd) hy h1;have hinv':∀n k,CJ md ops i n k=true→(listed.setIfInBounds j true).getD k true=false:=fun n k hk=>by
    have hjk:j≠k:=fun e=>by rw[←e,hnd n]at hk;cases hk
    rw[getD_set_ne true hjk];exact hinv n k hk
   have hfree':∀(k:Nat) ok,ops[k]? = some ok→k≠i→(listed.setIfInBounds j true).getD k true=false →
     (∀n,CJ md ops i n k=false)→Hz cls ops oi ok=true:=fun k ok hk hki hun hno=>by
    refine hfree k ok hk hki ?_ hno
    by_cases hjk:j=k
    ·subst hjk;exact hjun
    ·rw[getD_set_ne true hjk]at hun;exact hun
   refine T9 (fun e' S' h3=>?_) h2
   obtain⟨Si',h3,h4⟩:=h3;refine ih (listed.setIfInBounds j true) e' S' Si' hinv' hfree' (ready_mono hr (Ne.symm hji)) h3 ?_
   rw[Array.setIfInBounds_comm _ _ hji];exact h4
theorem Um{cls:Op→Cls}{md:Region.Mode}{ops:Array Oper}{Q:Af→Ae→Prop}(hlate:R8 md ops=true):∀(l:List Oper) (k:Nat) (listed:Array Bool) (e:Af) (S:Ae),(∀j,l[j]? = ops[k+j]?) →
  (∀j,k≤j→j<ops.size→listed.getD j true=false)→listed.size=ops.size →
  Nb cls md ops l.length k listed=true→Dn P cls ops Q l e S→D8 P cls md ops Q l.length listed e S
 |[],_,_,_,_,_,_,_,hB,h=>⟨by simpa[Nb] using hB,h⟩
 | o ::l,k,listed,e,S,hl,hun,hsz,hB,h=>by
  have h0:ops[k]? = some o:=by simpa using (hl 0).symm
  simp only[List.length_cons,Nb,Bool.and_eq_true]at hB;obtain⟨⟨hr,hf⟩,hB'⟩:=hB;have hst:xOp P cls ops k (Dn P cls ops Q l) e S:=by unfold xOp;simp only[h0];exact h
  obtain⟨v,S',hy,hK⟩:=Qg h0 hst;have hks:k<ops.size:=(Array.getElem?_eq_some_iff.1 h0).1
  refine Uo h0 l.length listed e S S' (fun n j hj=>?_) (X3 h0 hf) (by simpa using hr) hy
   (Um hlate l (k+1) _ _ _ (fun j=>by have :=hl (j+1);simpa[Nat.add_assoc,Nat.add_comm 1 j] using this) (fun j h1 h2=>?_) (by simpa using hsz) hB' hK)
  ·refine hun j (ZgL hlate k n j hj) ?_
   cases n with
   |zero=>unfold CJ at hj;have :=beq_iff_eq.1 hj;omega
   | succ n=>
    unfold CJ at hj;rw[Bool.or_eq_true]at hj;rcases hj with hj|hj
    ·have :=beq_iff_eq.1 hj;omega
    ·cases ho:ops[j]? with
     |none=>rw[ho]at hj;cases hj
     |some oj=>exact(Array.getElem?_eq_some_iff.1 ho).1
  ·rw[getD_set_ne true (by omega)]
   exact hun j (by omega) h2
theorem VF{ro:Option Nat}{cls:Op→Cls}{ops:Array Oper}{id:Nat}{Q:Af→Ae→Prop}{Q':Exit→Act→World→Prop}{e:Af}{S:Ae}{a:Act}{w:World}(hm:P.follows .mixedOrders=true)(hB:Pd cls ops=true)(hds:D3 N ops=true)
  (hQ:∀e S a w,AP N w0 g0 e S a w→Q e S→Q' .normal a w)(hc:AP N w0 g0 e S a w)(h:Dn P cls ops Q ops.toList e S):(Code.region id ops true).wpIn (wR ro) 0 P Q' a w:=by
 refine wpIn_region_any hm (IL ro (cls:=cls) hds hQ _ _ e S a _ (hc.draw _) ?_)
 simp only[Pd,Bool.and_eq_true]at hB;have :=Um (md:=.any) hB.1 ops.toList 0 (Array.replicate ops.size false) e S (by simp) (fun j _ hj=>by simp[hj]) (by simp) (by simpa using hB.2) h
 simpa using this
end
def E7(P:Program)(pf rf:List FuncId)(N:Nat):Code→Bool
 |.region _ ops draw=>D3 N ops&&(!draw||Pd (Bh P pf rf) ops)
 |.seq a b=>E7 P pf rf N a&&E7 P pf rf N b
 |.cond _ a b=>E7 P pf rf N a&&E7 P pf rf N b
 |.block _ b=>E7 P pf rf N b
 |.loop b=>E7 P pf rf N b
 |_=>true
section
variable {P:Program} {N N0:Nat} {w0:World} {g0:Gh} {pf rf:List FuncId}
theorem P8{ro:Option Nat}(hm:P.follows .mixedOrders=true)(hN0:g0.nid=N0):∀(c:Code) (Q:AX→Af→Ae→Prop) (e:Af) (S:Ae) (a:Act) (w:World),E7 P pf rf N c=true→AP N w0 g0 e S a w→AW P pf rf N0 (Cm c) Q e S→c.wpIn (wR ro) 0 P (EW N w0 g0 Q) a w:=by
 intro c;induction c with
 |skip=>intro Q e S a w _ hc h;exact wpIn_skip ⟨e,S,hc,h⟩
 |label l=>intro Q e S a w _ hc h;exact wpIn_label ⟨e,S,hc,h⟩
 |ret=>intro Q e S a w _ hc h;exact wpIn_ret ⟨e,S,hc,h⟩
 |exit id=>intro Q e S a w _ hc h;exact wpIn_exit ⟨e,S,hc,h⟩
 |region id ops draw=>
  intro Q e S a w hok hc h;simp only[E7,Bool.and_eq_true]at hok;simp only[Cm,Cu,AW]at h;have hL:=F4 ops.toList e S h;have hQ:∀e S a w,AP N w0 g0 e S a w→Q .norm e S→EW N w0 g0 Q .normal a w:=fun e S a w hc hq=>⟨e,S,hc,hq⟩
  cases draw with
  |false=>exact OO hok.1 hQ hc hL ro
  |true=>exact VF hm (by simpa using hok.2) hok.1 hQ hc hL
 |seq x y ihx ihy=>
  intro Q e S a w hok hc h;simp only[E7,Bool.and_eq_true]at hok;simp only[Cm,Cu,AW]at h;refine wpIn_seq (Go.wpIn_mono (ihx _ e S a w hok.1 hc h) ?_)
  intro ex a' w' hq;cases ex with
  |normal=>obtain⟨e',S',hc',h'⟩:=hq;exact ihy Q e' S' a' w' hok.2 hc' h'
  |exit id=>exact hq
  |ret=>exact hq
  |_=>exact hq.elim
 | cond c x y ihx ihy=>
  intro Q e S a w hok hc h;simp only[E7,Bool.and_eq_true]at hok;simp only[Cm,Cu,AW]at h;split at h
  ·rename_i b hb
   have hcb:a.eval c=.bool b:=by
    obtain⟨_,_,g,_,h4,_⟩:=hc;have :=Ka h4 c;rw[hb]at this;cases hv:a.eval c<;>rw[hv]at this<;>cases this
    rfl
   refine wpIn_cond_split hcb (fun ht=>ihx Q e S a w hok.1 hc (h.1 ht)) (fun hf=>ihy Q e S a w hok.2 hc (h.2 hf))
  ·exact h.elim
 | block id c ih=>
  intro Q e S a w hok hc h;simp only[Cm,Cu,AW]at h;refine wpIn_block (Go.wpIn_mono (ih _ e S a w hok hc h) ?_)
  intro ex a' w' hq;cases ex with
  |normal=>exact hq
  |exit i=>
   obtain⟨e',S',hc',h'⟩:=hq;simp only[EE]at h';simp only[Exit.inBlock];by_cases hi:i=id
   ·rw[if_pos hi]at h' ⊢;exact⟨e',S',hc',h'⟩
   ·rw[if_neg hi]at h' ⊢;exact⟨e',S',hc',h'⟩
  |ret=>exact hq
  |_=>exact hq.elim
 | loop c ih=>
  intro Q e S a w hok hc h;simp only[Cm,Cu,AW]at h;obtain⟨I,⟨n,e',S',hwk,hI⟩,hround⟩:=h;refine MA (fun n a w=>∃e S,AP N w0 g0 e S a w∧I n e S) n ⟨e',S',hwk N w0 g0 a w hN0 hc,hI⟩ ?_
  rintro n a w ⟨e,S,hc,hI⟩
  refine Go.wpIn_mono (ih _ e S a w hok hc (hround n e S hI)) ?_
  intro ex a' w' hq;cases ex with
  |normal=>
   obtain⟨e1,S1,hc1,n',e2,S2,hlt,hwk',hI'⟩:=hq;exact⟨n',hlt,e2,S2,hwk' N w0 g0 a' w' hN0 hc1,hI'⟩
  |exit i=>exact hq
  |ret=>exact hq
  |_=>exact hq.elim
 |_=>intro Q e S a w _ _ h;exact h.elim
end
section
variable {P:Program}
theorem AC.enter2{f:FuncId}{fn:Func}{c:Code}{args:List AV}{S S':Ae}{v:AV}(pf rf:List FuncId)(hf:P.funcs[f]? = some fn)(hb:fn.body=some c)(hname:fn.name ≠ "runtime.NumGoroutine")(hm:P.follows .mixedOrders=true)
  (hn:args.length≤fn.ntmps)(hok:E7 P pf rf fn.ntmps c=true)(h:AW P pf rf S.length (Cm c) (Dw P fn.results.toList S.length v S') (BH args) S):AC P f args S v S':=by
 exact AC.of_wp hf hb hname hn fun w g a hg hc=>P8 hm hg c _ (BH args) S a w hok hc h
end
end Pe
namespace Pe
open Tryz
open Go Go.RowKit
set_option maxRecDepth 100000
theorem Ap{P:Program}[Tab]{f:FuncId}{fn:Func}{c:Code}{args:List AV}{S S':Ae}{v:AV}(pf rf:List FuncId)(hf:P.funcs[f]? = some fn){B:Prop}(h:B)(hb:fn.body=some c:=by rfl)(hname:fn.name ≠ "runtime.NumGoroutine" :=by decide)(hm:P.follows .mixedOrders=true:=by decide)(hn:args.length≤fn.ntmps:=by exact Nat.le_of_ble_eq_true rfl)(hok:Dx P pf rf fn.ntmps c=true:=by kernel_rfl)(e:AW P pf rf S.length (Cm c) (Dw P fn.results.toList S.length v S') (BH args) S=B:=by
    conv=>
      lhs
      simp only[Cm,Cu,Dh,List.map_cons,List.map_nil,List.map_toArray,List.getElem?_toArray,List.getElem?_cons_zero,List.getElem?_cons_succ,Option.bind_some,Option.bind_none,List.append_eq,List.cons_append,List.nil_append]):AC P f args S v S':=AC.enter pf rf hf hb hname hm hn hok (e▸h)
theorem Ai{P:Program}[Tab]{f:FuncId}{fn:Func}{c:Code}{args:List AV}{S S':Ae}{v:AV}(pf rf:List FuncId)(hf:P.funcs[f]? = some fn){B:Prop}(h:B)(hb:fn.body=some c:=by rfl)(hname:fn.name ≠ "runtime.NumGoroutine" :=by decide)(hm:P.follows .mixedOrders=true:=by decide)(hn:args.length≤fn.ntmps:=by exact Nat.le_of_ble_eq_true rfl)(hok:E7 P pf rf fn.ntmps c=true:=by kernel_rfl)(e:AW P pf rf S.length (Cm c) (Dw P fn.results.toList S.length v S') (BH args) S=B:=by
    conv=>
      lhs
      simp only[Cm,Cu,Dh,List.map_cons,List.map_nil,List.map_toArray,List.getElem?_toArray,List.getElem?_cons_zero,List.getElem?_cons_succ,Option.bind_some,Option.bind_none,List.append_eq,List.cons_append,List.nil_append]):AC P f args S v S':=AC.enter2 pf rf hf hb hname hm hn hok (e▸h)
end Pe
end
end Go.Proofs.YtchpmmjmimaigaaGreatDoor
