import Derived.Test.YtchpmmjmimaigaaGreatDoorKh8
import Derived.Test.YtchpmmjmimaigaaGreatDoorKh9
set_option linter.unusedSectionVars false
set_option linter.unusedVariables false
set_option linter.unusedSimpArgs false
namespace Go.Proofs.YtchpmmjmimaigaaGreatDoor
section
namespace Sg
open Tryz
open Go Co
def Gc:Nat→Nat→Nat→Nat→Nat
 |0,r,_,_=>r
 |f+1,r,p,e=>Gc f (if e % 2=1 then r*p % 2305843009213693951 else r) (p*p % 2305843009213693951) (e / 2)
theorem MW(f r p e:Nat):Gc (f+1) r p e=Gc f (if e % 2=1 then r*p % 2305843009213693951 else r) (p*p % 2305843009213693951) (e / 2):=rfl
theorem Rp:∀(f r p:Nat),Gc f r p 0=r
 |0,_,_=>rfl
 |f+1,r,p=>by rw[MW,if_neg (by simp),Nat.zero_div,Rp f]
theorem V1:∀(f r p e:Nat),r<2305843009213693951→Gc f r p e<2305843009213693951
 |0,_,_,_,h=>h
 |f+1,r,p,e,h=>by
  rw[MW];refine V1 f _ _ _ ?_
  split
  ·exact Nat.mod_lt _ (by decide)
  ·exact h
theorem V3:∀(f r p e:Nat),r<2305843009213693951→Gc f r p e=r*p^(e % 2^f) % 2305843009213693951
 |0,r,p,e,h=>by
  show r=_
  rw[Nat.pow_zero,Nat.mod_one,Nat.pow_zero,Nat.mul_one,Nat.mod_eq_of_lt h]
 | f+1,r,p,e,h=>by
  have hlt:(if e % 2=1 then r*p % 2305843009213693951 else r)<2305843009213693951:=by
   split
   ·exact Nat.mod_lt _ (by decide)
   ·exact h
  rw[MW,V3 f _ _ _ hlt];have he:e % 2^(f+1)=e % 2+2*(e / 2 % 2^f):=by rw[Nat.pow_succ,Nat.mul_comm (2^f) 2,Nat.mod_mul]
  rw[he,Nat.pow_add,Nat.pow_mul];generalize e / 2 % 2^f=k;have h1:(p*p % 2305843009213693951)^k % 2305843009213693951=(p^2)^k % 2305843009213693951:=by rw[←Nat.pow_mod,Nat.pow_two]
  split
  ·rename_i h2
   rw[h2,Nat.pow_one,←Nat.mul_assoc];rw[Nat.mul_mod,h1,Nat.mod_mod,←Nat.mul_mod]
  ·rename_i h2
   rw[show e % 2=0 from by omega,Nat.pow_zero,Nat.one_mul,Nat.mul_mod,h1,←Nat.mul_mod]
def AU(b e:Nat):Nat:=Gc 64 1 (b % 2305843009213693951) e
theorem Fi(b e:Nat):AU b e<2305843009213693951:=V1 _ _ _ _ (by decide)
theorem LP(b:Nat){e:Nat}(h:e<2^64):AU b e=b^e % 2305843009213693951:=by
 unfold AU;rw[V3 _ _ _ _ (by decide),Nat.mod_eq_of_lt h,Nat.one_mul,←Nat.pow_mod]
theorem Zfq:AU 37 2305843009213693950=1:=by decide +kernel
theorem V0:37^2305843009213693950 % 2305843009213693951=1:=by rw[←LP 37 (show 2305843009213693950<2^64 by decide)];exact Zfq
theorem VZ(k:Nat):37^(2305843009213693950*k) % 2305843009213693951=1:=by
 rw[Nat.pow_mul,Nat.pow_mod,V0,Nat.one_pow]
theorem Zfr(k:Nat):37^(k % 2305843009213693950) % 2305843009213693951=37^k % 2305843009213693951:=by
 have h:37^k % 2305843009213693951=37^(2305843009213693950*(k / 2305843009213693950))*37^(k % 2305843009213693950) % 2305843009213693951:=by rw[←Nat.pow_add,Nat.div_add_mod]
 rw[h,Nat.mul_mod,VZ,Nat.one_mul,Nat.mod_mod]
def Eh(a e:Int):Nat:=AU (a % (2305843009213693951:Int)).toNat (if e<0 then(e % (2305843009213693950:Int)).toNat else e.toNat)
def Ib(a b:Int):Nat:=(a % 2305843009213693951).toNat*(b % 2305843009213693951).toNat % 2305843009213693951
def EZ(a b:Int):Nat:=(a % 2305843009213693950).toNat*(b % 2305843009213693950).toNat % 2305843009213693950
theorem LR{x y:Nat}(hx:x<2305843009213693951)(hy:y<2305843009213693951):Ib x y=x*y % 2305843009213693951:=by
 unfold Ib;rw[show((x:Int) % 2305843009213693951).toNat=x by omega,show((y:Int) % 2305843009213693951).toNat=y by omega]
def hash(s:By):Nat:=Sm.num (Sm.sha s)
theorem No(s:By):hash s<2305843009213693952:=by
 have :=Sm.nat8_lt (Sm.sha s) 8;unfold hash Sm.num;omega
def GO(h:Nat):Nat:=1+h % (2305843009213693950-1)
theorem LN(h:Nat):1≤GO h∧GO h<2305843009213693950:=by
 unfold GO;have :=Nat.mod_lt h (show 2305843009213693950-1>0 by decide)
 omega
abbrev GG:By:=[115,105,103,110]
abbrev wNonce:By:=[110,111,110,99,101]
abbrev FF:By:=[107,101,121]
def D4(r p:Int)(m:By):Nat:=hash (text GG++Ah r++Ah p++text m) % 2305843009213693950
theorem PP(r p:Int)(m:By):D4 r p m<2305843009213693950:=Nat.mod_lt _ (by decide)
structure Key where
 secret:Int
 pub:Int
 deriving DecidableEq
structure Sig where
 e:Int
 s:Int
 deriving DecidableEq
def keyOf(s:Int):Key:=if s<1∨2305843009213693949<s then⟨0,0⟩else⟨s,AU 37 s.toNat⟩
def Key.right(k:Key):Bool:=decide (1≤k.secret)&&decide (k=keyOf k.secret)
def Hq(seed:By):Key:=keyOf (GO (hash (text FF++text seed)))
def nonce(k:Key)(m:By):Nat:=GO (hash (text wNonce++Ah k.secret++text m))
def Do(k:Key)(m:By):Sig:=
 if k.right then⟨D4 (AU 37 (nonce k m)) k.pub m,((nonce k m+D4 (AU 37 (nonce k m)) k.pub m*k.secret.toNat) % 2305843009213693950:Nat)⟩else⟨0,0⟩
def HA(n:Int):Bool:=decide (0≤n)&&decide (n<2305843009213693950)
def Fv(p:Int)(s:Sig):Nat:=AU 37 s.s.toNat*AU p.toNat (2305843009213693950-s.e).toNat % 2305843009213693951
def IP(p:Int)(m:By)(s:Sig):Bool:=
 decide (1≤p)&&decide (p<2305843009213693951)&&HA s.e&&HA s.s&&decide (s.e=D4 (Fv p s) p m)
theorem Key.right_iff{k:Key}:k.right=true↔1≤k.secret∧k.secret≤2305843009213693949∧k.pub=AU 37 k.secret.toNat:=by
 unfold Key.right keyOf;obtain⟨s,p⟩:=k;simp only[Bool.and_eq_true,decide_eq_true_eq];constructor
 ·rintro⟨h1,h2⟩
  split at h2
  ·injection h2;omega
  ·injection h2 with h3 h4
   exact⟨h1,by omega,h4⟩
 ·rintro⟨h1,h2,h3⟩
  rw[if_neg (by omega)]
  exact⟨h1,by rw[h3]⟩
theorem ZgX{s:Int}(h1:1≤s)(h2:s≤2305843009213693949):(keyOf s).right=true:=by
 unfold keyOf;rw[if_neg (by omega),Key.right_iff]
 exact⟨h1,h2,rfl⟩
theorem Xj(seed:By):(Hq seed).right=true:=by
 have :=LN (hash (text FF++text seed));exact ZgX (by omega) (by omega)
theorem pow_pos{x:Nat}(h:x≤2305843009213693950):37^x % 2305843009213693951≠0:=by
 intro h0;have h1:37^2305843009213693950 % 2305843009213693951=37^x*37^(2305843009213693950-x) % 2305843009213693951:=by rw[←Nat.pow_add];congr 2;omega
 rw[Nat.mul_mod,h0,Nat.zero_mul,Nat.zero_mod,V0]at h1;exact absurd h1 (by decide)
theorem Rm{k:Key}(h:k.right=true):1≤k.pub∧k.pub<2305843009213693951:=by
 obtain⟨h1,h2,h3⟩:=Key.right_iff.1 h;have :=Fi 37 k.secret.toNat;have h4:=LP 37 (e:=k.secret.toNat) (by omega)
 have h5:=pow_pos (x:=k.secret.toNat) (by omega)
 rw[←h4]at h5;omega
theorem Zjd(u e x:Nat)(he:e≤2305843009213693950):37^((u+e*x) % 2305843009213693950) % 2305843009213693951*((37^x % 2305843009213693951)^(2305843009213693950-e) % 2305843009213693951) % 2305843009213693951=37^u % 2305843009213693951:=by
 rw[Zfr,←Nat.pow_mod,←Nat.pow_mul,←Nat.mul_mod,←Nat.pow_add]
 have:u+e*x+x*(2305843009213693950-e)=u+2305843009213693950*x:=by
  rw[Nat.mul_comm e x,Nat.add_assoc,←Nat.mul_add,Nat.add_sub_cancel' he,Nat.mul_comm]
 rw[this,Nat.pow_add,Nat.mul_mod,VZ,Nat.mul_one,Nat.mod_mod]
theorem Zco{k:Key}(h:k.right=true)(m:By):IP k.pub m (Do k m)=true:=by
 obtain⟨p1,p2⟩:=Rm h;obtain⟨h1,h2,h3⟩:=Key.right_iff.1 h;have hu:=LN (hash (text wNonce++Ah k.secret++text m));change 1≤nonce k m∧nonce k m<2305843009213693950 at hu;unfold Do;rw[if_pos h];have he:=PP (AU 37 (nonce k m)) k.pub m;have hs:(nonce k m+D4 (AU 37 (nonce k m)) k.pub m*k.secret.toNat) % 2305843009213693950<2305843009213693950:=Nat.mod_lt _ (by decide)
 have hc:Fv k.pub ⟨D4 (AU 37 (nonce k m)) k.pub m,((nonce k m+D4 (AU 37 (nonce k m)) k.pub m*k.secret.toNat) % 2305843009213693950:Nat)⟩=AU 37 (nonce k m):=by
  generalize D4 (AU 37 (nonce k m)) k.pub m=e at *;unfold Fv;simp only[Int.toNat_natCast];rw[h3,Int.toNat_natCast,show(2305843009213693950-(e:Int)).toNat=2305843009213693950-e from by omega]
  rw[LP _ (show 2305843009213693950-e<2^64 by omega),LP _ (show k.secret.toNat<2^64 by omega),LP _ (show(nonce k m+e*k.secret.toNat) % 2305843009213693950<2^64 by omega),LP _ (show nonce k m<2^64 by omega)]
  exact Zjd _ _ _ (by omega)
 unfold IP;rw[hc];generalize D4 (AU 37 (nonce k m)) k.pub m=e at *;generalize (nonce k m+e*k.secret.toNat) % 2305843009213693950=s at *;simp only[HA,Bool.and_eq_true,decide_eq_true_eq];refine⟨⟨⟨⟨p1,p2⟩,?_,?_⟩,?_,?_⟩,trivial⟩<;>omega
theorem ZdE(k:Key)(m:By):0≤(Do k m).e∧(Do k m).e≤2305843009213693949∧0≤(Do k m).s∧(Do k m).s≤2305843009213693949:=by
 unfold Do;split
 ·have he:=PP (AU 37 (nonce k m)) k.pub m
  have hs:(nonce k m+D4 (AU 37 (nonce k m)) k.pub m*k.secret.toNat) % 2305843009213693950<2305843009213693950:=Nat.mod_lt _ (by decide)
  simp only
  omega
 ·simp
end Sg
end
section
namespace Pe
open Tryz
open Go Co
variable [Tab]
set_option maxRecDepth 100000
abbrev B8(l:List By):AV:=.sl .ro (l.map .st)
abbrev rd(x:R):SObj:=.cells [.st x.rest,.bo x.bad]
theorem KI{n:Int}(h:0≤n)(h':n<256):IntKind.u8.wrap n=n:=by
 show n % 2^8=n
 omega
theorem OZ{n:Nat}(h:n<256):(UInt8.ofNat n).toNat=n:=by
 rw[UInt8.toNat_ofNat'];omega
theorem U0(acc:By)(b:UInt8):acc.map u8++[AV.it .u8 (b.toNat:Int)]=(acc++[b]).map u8:=by simp[u8]
theorem BQ(n:Int)(h:n<9223372036854775808)(h0:-9223372036854775808≤n):AC prog 67 [.it .i64 n] [] (.st (Ah n)) []:=by
 refine AC.enter [] [] func67 rfl (by decide) (by decide) (Nat.le_of_ble_eq_true rfl) (by kernel_rfl) ?_;refine Al ?_
 by_cases hn:n<0
 ·rw[show Ah n=[]from if_pos hn]
  refine run ?_;exact Ad
 obtain⟨k,rfl⟩:=Int.eq_ofNat_of_zero_le (show 0≤n by omega)
 rw[I6];refine run ?_;refine CG (fun m e S=>∃(acc:By) (j:Nat),e 0=.it .i64 (j:Int)∧e 3=.sl (.own 0) (acc.map u8)∧S=[.buf acc.length 5 1]∧acc++num j=num k∧j≤k∧acc.length+j≤k∧m=j) k _ _ (Aq.reserve 0 3 (es:=[]) (by rfl) 5 1) ⟨[],k,Ab,Ab,rfl,rfl,Nat.le_refl _,by simp,rfl⟩ ?_
 rintro q e S ⟨acc,q,s0,s3,rfl,hnum,hj,hacc,rfl⟩
 have hal:acc.length≤8:=by
  have e1:=congrArg List.length hnum;have e2:=O2 8 k (by omega)
  have e3:=WA q;rw[List.length_append]at e1;omega
 by_cases hs:q<128
 ·have hb:IntKind.u8.wrap (q:Int)=((UInt8.ofNat q).toNat:Int):=by rw[KI (by omega) (by omega),OZ (by omega)]
  have hsn:=U0 acc (UInt8.ofNat q);rw[I5 hs]at hnum;refine Aa (A4 @s0 @s3 @hb @hsn) ?_;rw[←hnum];exact Ad
 ·have ht:(q:Int).tmod 128=((q % 128:Nat):Int):=by rw[Int.tmod_eq_emod_of_nonneg (by omega)];omega
  have hd:(q:Int).tdiv 128=((q / 128:Nat):Int):=by rw[Int.tdiv_eq_ediv_of_nonneg (by omega)];omega
  have hb:IntKind.u8.wrap (128+((q % 128:Nat):Int))=((UInt8.ofNat (128+q % 128)).toNat:Int):=by rw[KI (by omega) (by omega),OZ (by omega)];omega
  rw[M2 hs]at hnum;refine Aa (A5 @s0 @s3 @ht @hd @hb) ?_;refine As (q / 128) (by omega) ⟨acc++[UInt8.ofNat (128+q % 128)],q / 128,Ab,by rw[←U0];exact Ab,by rw[List.length_append];rfl,by rw[List.append_assoc];exact hnum,by omega,by rw[List.length_append,List.length_singleton];omega,rfl⟩
theorem C2(s:By)(h:s.length≤140737488355328):AC prog 66 [.st s] [] (.st (text s)) []:=by
 refine AC.enter [67] [] func66 rfl (by decide) (by decide) (Nat.le_of_ble_eq_true rfl) (by kernel_rfl) ?_;refine Al ?_
 have hl:=AD (s.length:Int) (by omega)
 refine run ?_;refine cp (BQ s.length (by omega) (by omega)) ?_
 rw[I6]at *;refine run ?_;exact Ad
theorem ZfT(s:By):AC prog 83 [.st s] [] (.ptr 0 0) [rd ⟨s,false⟩]:=by
 refine AC.enter [] [] func83 rfl (by decide) (by decide) (Nat.le_of_ble_eq_true rfl) (by kernel_rfl) ?_;refine Al ?_
 refine run ?_;exact Nu [0] (by rfl) (IU 0 (by rfl) (by rfl)) (by rfl) (by rfl) (by rfl)
theorem SS(x:R):AC prog 157 [.ptr 0 0] [rd x] (.tup []) [rd Co.fail]:=by
 refine AC.enter [] [] func157 rfl (by decide) (by decide) (Nat.le_of_ble_eq_true rfl) (by kernel_rfl) ?_;refine Al ?_
 refine run ?_;exact SX
theorem Zip(x:R):AC prog 85 [.ptr 0 0] [rd x] (.bo (!x.bad&&x.rest==[])) [rd x]:=by
 refine AC.enter [] [] func85 rfl (by decide) (by decide) (Nat.le_of_ble_eq_true rfl) (by kernel_rfl) ?_;refine Al ?_
 obtain⟨r,b⟩:=x;cases b
 ·refine run ?_
  exact GZ
 ·refine run ?_
  exact GZ
set_option maxHeartbeats 3200000 in
theorem ZeA(x:R)(hx:x.rest.length<9223372036854775808):AC prog 84 [.ptr 0 0] [rd x] (.it .i64 x.num.1) [rd x.num.2]:=by
 refine AC.enter [] [] func84 rfl (by decide) (by decide) (Nat.le_of_ble_eq_true rfl) (by kernel_rfl) ?_;refine Al ?_
 refine run ?_;refine Bn (fun m e S=>∃(i acc:Nat),e 0=.ptr 0 0∧e 3=.it .i64 (acc:Int)∧e 4=.it .i64 (i:Int)∧S=[rd x]∧i≤9∧i≤x.rest.length∧acc<2^(7*i)∧H9 x.rest 0 0=H9 (x.rest.drop i) i acc∧m=9-i) 9 ⟨0,0,Ab,Ab,Ab,rfl,by omega,by omega,by simp,rfl,rfl⟩ ?_
 rintro m e S ⟨i,acc,s0,s3,s4,rfl,hi,hil,hacc,hrd,rfl⟩
 by_cases hlt:i<x.rest.length
 rotate_left
 ·have hnum:x.num=(0,Co.fail):=by unfold R.num;rw[hrd,List.drop_eq_nil_of_le (by omega)];rfl
  rw[hnum];refine Aa (A3 @s0 @s3 @s4) ?_;refine c1 0 (SS x) ?_;refine Aa (A3 @s0 @s3 @s4) ?_;exact GZ
 have hdr:x.rest.drop i=x.rest[i]::x.rest.drop (i+1):=List.drop_eq_getElem_cons hlt;have hg:x.rest[i]? = some x.rest[i]:=List.getElem?_eq_getElem hlt
 generalize x.rest[i]=d at *;have hu:u8 d=.it .u8 (d.toNat:Int):=rfl;rw[hdr,Rb]at hrd;by_cases h9:9≤i
 ·rw[if_pos h9]at hrd
  have hnum:x.num=(0,Co.fail):=by unfold R.num;rw[hrd]
  rw[hnum];refine Aa (A3 @s0 @s3 @s4) ?_;refine c1 0 (SS x) ?_;refine Aa (A3 @s0 @s3 @s4) ?_;exact GZ
 rw[if_neg h9]at hrd;have hd:d.toNat<256:=d.toNat_lt;have hp:2^(7*(i+1))=128*2^(7*i):=by rw[show 7*(i+1)=7+7*i from by omega,Nat.pow_add]
 have hq:2^(7*(i+1))≤2^63:=Nat.pow_le_pow_right (by omega) (by omega)
 have hshl:∀c:Nat,c≤127→Jt .i64 (c:Int) (7*(i:Int))=some (.it .i64 ((c*2^(7*i):Nat):Int)):=fun c hc=>by
  have hc':c*2^(7*i)≤127*2^(7*i):=Nat.mul_le_mul_right _ hc;unfold Jt;rw[if_pos (by omega)]
  congr 2
  rw[show((7:Int)*(i:Int)).toNat=7*i from by omega,show min (7*i) IntKind.i64.bits=7*i from Nat.min_eq_left (by show _≤64;omega)]
  rw[show((c:Int)*2^(7*i))=((c*2^(7*i):Nat):Int)from by push_cast;rfl]
  exact wrap64 (by omega) (by omega)
 by_cases h128:128≤d.toNat
 ·rw[if_pos h128]at hrd
  have hc:(d.toNat-128)*2^(7*i)≤127*2^(7*i):=Nat.mul_le_mul_right _ (by omega)
  have hsub:IntKind.u8.wrap ((d.toNat:Int)-128)=((d.toNat-128:Nat):Int):=by rw[KI (by omega) (by omega)];omega
  have hsh:=hshl (d.toNat-128) (by omega)
  have hor:=Wj acc (d.toNat-128) (7*i) hacc (by omega)
  generalize (d.toNat-128)*2^(7*i)=c at *;refine Aa (A8 @s0 @s3 @s4 @hg @hu @hsub @hsh @hor) ?_;exact As (9-(i+1)) (by omega) ⟨i+1,acc+c,Ab,Ab,Ab,rfl,by omega,by omega,by omega,hrd,rfl⟩
 rw[if_neg h128]at hrd;by_cases hz:d.toNat=0∧0<i
 ·rw[if_pos hz]at hrd
  have hnum:x.num=(0,Co.fail):=by unfold R.num;rw[hrd]
  have hz0:=hz.1;have hz1:=hz.2;rw[hnum];refine Aa (A6 @s0 @s3 @s4 @hg @hu @hz0) ?_;refine c1 0 (SS x) ?_;refine Aa (A3 @s0 @s3 @s4) ?_;exact GZ
 ·rw[if_neg hz]at hrd
  have hnum:x.num=(acc+d.toNat*2^(7*i),⟨x.rest.drop (i+1),x.bad⟩):=by unfold R.num;rw[hrd]
  have hc:d.toNat*2^(7*i)≤127*2^(7*i):=Nat.mul_le_mul_right _ (by omega)
  have hsh:=hshl d.toNat (by omega)
  have hor:=Wj acc d.toNat (7*i) hacc (by omega)
  rw[hnum];generalize d.toNat*2^(7*i)=c at *;have hdd:x.rest.take x.rest.length=x.rest:=List.take_length;by_cases hz0:d.toNat=0
  ·have hi0:i=0:=by omega
   subst hi0;refine Aa (A8 @s0 @s3 @s4 @hg @hu @hsh @hor @hdd) ?_;exact GZ
  ·refine Aa (A8 @s0 @s3 @s4 @hg @hu @hsh @hor @hdd) ?_
   exact GZ
theorem EL{n:Nat}(h:n<9223372036854775808):(num n).length≤9:=O2 8 n (by omega)
theorem Be{s:By}(h:s.length≤1000000):(text s).length≤1000009:=by
 have :=EL (n:=s.length) (by omega)
 unfold text;rw[List.length_append];omega
theorem Yc{l:List By}{k:Nat}(hk:k<l.length):((l.take (k+1)).map text).flatten=((l.take k).map text).flatten++text l[k]:=by
 rw[List.take_succ_eq_append_getElem hk,List.map_append,List.flatten_append];congr 1
 exact List.append_nil _
theorem SL{l:List By}(hx:∀x∈l,x.length≤1000000):(l.map text).flatten.length≤l.length*1000009:=by
 induction l with
 |nil=>simp
 |cons a l ih=>
  have h1:=ih fun x h=>hx x (by simp[h])
  have h2:=Be (hx a (by simp))
  rw[List.map_cons,List.flatten_cons,List.length_append,List.length_cons,Nat.succ_mul];omega
theorem W6{l:List By}(hl:l.length≤1000000)(hx:∀x∈l,x.length≤1000000):(list l).length≤1000009000009:=by
 have :=EL (n:=l.length) (by omega)
 have h2:=SL hx;have h3:l.length*1000009≤1000000*1000009:=Nat.mul_le_mul_right _ hl;unfold list;rw[List.length_append];omega
theorem Zb3(l:List By)(hl:l.length≤1000000)(hx:∀x∈l,x.length≤1000000):AC prog 273 [B8 l,.fn (.func 66) [] []] [] (.st (list l)) []:=by
 refine AC.enter [67,1000019] [] func273 rfl (by decide) (by decide) (Nat.le_of_ble_eq_true rfl) (by kernel_rfl) ?_;refine Al ?_
 have hn9:=EL (n:=l.length) (by omega)
 refine run ?_;refine cp (BQ l.length (by omega) (by omega)) ?_
 rw[I6];refine run ?_;refine Bn (fun m e S=>e 1=.fn (.func 66) [] []∧e 12=B8 l∧e 13=.it .i64 (l.length:Int) ∧ ∃(k:Nat) (acc:By),e 5=.sl (.own 0) (acc.map u8)∧e 14=.it .i64 (k:Int)∧S=[.buf acc.length 5 1]∧acc=num l.length++((l.take k).map text).flatten∧k≤l.length∧m=l.length-k) l.length
  ⟨Ab,Ab,Ab,0,num l.length,Ab,Ab,rfl,by simp,by omega,rfl⟩ ?_
 rintro m e S ⟨s1,s12,s13,k,acc,s5,s14,rfl,hacc,hk,rfl⟩
 by_cases hlt:k<l.length
 ·have ga:l[k]? = some l[k]:=List.getElem?_eq_getElem hlt
  have hxk:=hx l[k] (List.getElem_mem hlt);have htl:=Be hxk;have hal:acc.length≤1000009000009:=by
   have h1:=SL (l:=l.take k) fun x h=>hx x (List.mem_of_mem_take h)
   have h2:(l.take k).length*1000009≤1000000*1000009:=Nat.mul_le_mul_right _ (by rw[List.length_take];omega)
   rw[hacc,List.length_append];omega
  have hft:=Yc hlt;generalize l[k]=x at *;refine Aa (A6 @s1 @s5 @s12 @s13 @s14 @ga) ?_;refine cp (C2 x (by omega)) ?_
  refine Aa (A5 @s1 @s5 @s12 @s13 @s14) ?_;refine As (l.length-(k+1)) (by omega) ⟨Ab,Ab,Ab,k+1,acc++text x,by rw[List.map_append];exact Ab,Ab,by rw[List.length_append],by rw[hacc,hft,List.append_assoc],by omega,rfl⟩
 ·obtain rfl:k=l.length:=by omega
  rw[List.take_length]at hacc;refine Aa (A5 @s1 @s5 @s12 @s13 @s14) ?_;rw[show list l=acc from hacc.symm]
  exact Ad
theorem R3(l:List By)(hl:l.length≤1000000)(hx:∀x∈l,x.length≤1000000):AC prog 169 [B8 l] [] (.st (list l)) []:=by
 refine AC.enter [273] [] func169 rfl (by decide) (by decide) (Nat.le_of_ble_eq_true rfl) (by kernel_rfl) ?_;refine Al ?_
 refine run ?_;refine cp (Zb3 l hl hx) ?_;refine run ?_;exact Ad
end Pe
end
end Go.Proofs.YtchpmmjmimaigaaGreatDoor
