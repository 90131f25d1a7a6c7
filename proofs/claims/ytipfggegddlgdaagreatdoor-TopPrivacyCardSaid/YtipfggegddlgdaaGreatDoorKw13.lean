import Derived.Test.YtipfggegddlgdaaGreatDoorKw11
import Derived.Test.YtipfggegddlgdaaGreatDoorKw12
import Derived.Lib.DecodeN
set_option linter.unusedSectionVars false
set_option linter.unusedVariables false
set_option linter.unusedSimpArgs false
namespace Go.Proofs.YtipfggegddlgdaaGreatDoor
section
namespace Sg
open Tryz
open Go Co
def FQ:Nat→Nat→Nat→Nat→Nat
 |0,r,_,_=>r
 |f+1,r,p,e=>FQ f (if e % 2=1 then r*p % 2305843009213693951 else r) (p*p % 2305843009213693951) (e / 2)
theorem LK(f r p e:Nat):FQ (f+1) r p e=FQ f (if e % 2=1 then r*p % 2305843009213693951 else r) (p*p % 2305843009213693951) (e / 2):=rfl
theorem PQ:∀(f r p:Nat),FQ f r p 0=r
 |0,_,_=>rfl
 |f+1,r,p=>by rw[LK,if_neg (by simp),Nat.zero_div,PQ f]
theorem T6:∀(f r p e:Nat),r<2305843009213693951→FQ f r p e<2305843009213693951
 |0,_,_,_,h=>h
 |f+1,r,p,e,h=>by
  rw[LK];refine T6 f _ _ _ ?_
  split
  ·exact Nat.mod_lt _ (by decide)
  ·exact h
theorem T7:∀(f r p e:Nat),r<2305843009213693951→FQ f r p e=r*p^(e % 2^f) % 2305843009213693951
 |0,r,p,e,h=>by
  show r=_
  rw[Nat.pow_zero,Nat.mod_one,Nat.pow_zero,Nat.mul_one,Nat.mod_eq_of_lt h]
 | f+1,r,p,e,h=>by
  have hlt:(if e % 2=1 then r*p % 2305843009213693951 else r)<2305843009213693951:=by
   split
   ·exact Nat.mod_lt _ (by decide)
   ·exact h
  rw[LK,T7 f _ _ _ hlt];have he:e % 2^(f+1)=e % 2+2*(e / 2 % 2^f):=by rw[Nat.pow_succ,Nat.mul_comm (2^f) 2,Nat.mod_mul]
  rw[he,Nat.pow_add,Nat.pow_mul];generalize e / 2 % 2^f=k;have h1:(p*p % 2305843009213693951)^k % 2305843009213693951=(p^2)^k % 2305843009213693951:=by rw[←Nat.pow_mod,Nat.pow_two]
  split
  ·rename_i h2
   rw[h2,Nat.pow_one,←Nat.mul_assoc];rw[Nat.mul_mod,h1,Nat.mod_mod,←Nat.mul_mod]
  ·rename_i h2
   rw[show e % 2=0 from by omega,Nat.pow_zero,Nat.one_mul,Nat.mul_mod,h1,←Nat.mul_mod]
def Bq(b e:Nat):Nat:=FQ 64 1 (b % 2305843009213693951) e
theorem GG(b e:Nat):Bq b e<2305843009213693951:=T6 _ _ _ _ (by decide)
theorem Kc(b:Nat){e:Nat}(h:e<2^64):Bq b e=b^e % 2305843009213693951:=by
 unfold Bq;rw[T7 _ _ _ _ (by decide),Nat.mod_eq_of_lt h,Nat.one_mul,←Nat.pow_mod]
theorem ZcW:Bq 37 2305843009213693950=1:=by decide +kernel
theorem T5:37^2305843009213693950 % 2305843009213693951=1:=by rw[←Kc 37 (show 2305843009213693950<2^64 by decide)];exact ZcW
theorem T4(k:Nat):37^(2305843009213693950*k) % 2305843009213693951=1:=by
 rw[Nat.pow_mul,Nat.pow_mod,T5,Nat.one_pow]
theorem ZcX(k:Nat):37^(k % 2305843009213693950) % 2305843009213693951=37^k % 2305843009213693951:=by
 have h:37^k % 2305843009213693951=37^(2305843009213693950*(k / 2305843009213693950))*37^(k % 2305843009213693950) % 2305843009213693951:=by rw[←Nat.pow_add,Nat.div_add_mod]
 rw[h,Nat.mul_mod,T4,Nat.one_mul,Nat.mod_mod]
def Ev(a e:Int):Nat:=Bq (a % (2305843009213693951:Int)).toNat (if e<0 then(e % (2305843009213693950:Int)).toNat else e.toNat)
def Ja(a b:Int):Nat:=(a % 2305843009213693951).toNat*(b % 2305843009213693951).toNat % 2305843009213693951
def I9(a b:Int):Nat:=(a % 2305843009213693950).toNat*(b % 2305843009213693950).toNat % 2305843009213693950
theorem Kf{x y:Nat}(hx:x<2305843009213693951)(hy:y<2305843009213693951):Ja x y=x*y % 2305843009213693951:=by
 unfold Ja;rw[show((x:Int) % 2305843009213693951).toNat=x by omega,show((y:Int) % 2305843009213693951).toNat=y by omega]
def hash(s:By):Nat:=Sm.num (Sm.sha s)
theorem QA(s:By):hash s<2305843009213693952:=by
 have :=Sm.nat8_lt (Sm.sha s) 8;unfold hash Sm.num;omega
def H6(h:Nat):Nat:=1+h % (2305843009213693950-1)
theorem NO(h:Nat):1≤H6 h∧H6 h<2305843009213693950:=by
 unfold H6;have :=Nat.mod_lt h (show 2305843009213693950-1>0 by decide)
 omega
abbrev Gb:By:=[115,105,103,110]
abbrev wNonce:By:=[110,111,110,99,101]
abbrev IQ:By:=[107,101,121]
def D3(r p:Int)(m:By):Nat:=hash (text Gb++Ai r++Ai p++text m) % 2305843009213693950
theorem Q8(r p:Int)(m:By):D3 r p m<2305843009213693950:=Nat.mod_lt _ (by decide)
structure Key where
 secret:Int
 pub:Int
 deriving DecidableEq
structure Sig where
 e:Int
 s:Int
 deriving DecidableEq
def keyOf(s:Int):Key:=if s<1∨2305843009213693949<s then⟨0,0⟩else⟨s,Bq 37 s.toNat⟩
def Key.right(k:Key):Bool:=decide (1≤k.secret)&&decide (k=keyOf k.secret)
def Kk(seed:By):Key:=keyOf (H6 (hash (text IQ++text seed)))
def nonce(k:Key)(m:By):Nat:=H6 (hash (text wNonce++Ai k.secret++text m))
def EF(k:Key)(m:By):Sig:=
 if k.right then⟨D3 (Bq 37 (nonce k m)) k.pub m,((nonce k m+D3 (Bq 37 (nonce k m)) k.pub m*k.secret.toNat) % 2305843009213693950:Nat)⟩else⟨0,0⟩
def GN(n:Int):Bool:=decide (0≤n)&&decide (n<2305843009213693950)
def Fg(p:Int)(s:Sig):Nat:=Bq 37 s.s.toNat*Bq p.toNat (2305843009213693950-s.e).toNat % 2305843009213693951
def HQ(p:Int)(m:By)(s:Sig):Bool:=
 decide (1≤p)&&decide (p<2305843009213693951)&&GN s.e&&GN s.s&&decide (s.e=D3 (Fg p s) p m)
theorem Key.right_iff{k:Key}:k.right=true↔1≤k.secret∧k.secret≤2305843009213693949∧k.pub=Bq 37 k.secret.toNat:=by
 unfold Key.right keyOf;obtain⟨s,p⟩:=k;simp only[Bool.and_eq_true,decide_eq_true_eq];constructor
 ·rintro⟨h1,h2⟩
  split at h2
  ·injection h2;omega
  ·injection h2 with h3 h4
   exact⟨h1,by omega,h4⟩
 ·rintro⟨h1,h2,h3⟩
  rw[if_neg (by omega)]
  exact⟨h1,by rw[h3]⟩
theorem ZeB{s:Int}(h1:1≤s)(h2:s≤2305843009213693949):(keyOf s).right=true:=by
 unfold keyOf;rw[if_neg (by omega),Key.right_iff]
 exact⟨h1,h2,rfl⟩
theorem Qo(seed:By):(Kk seed).right=true:=by
 have :=NO (hash (text IQ++text seed));exact ZeB (by omega) (by omega)
theorem pow_pos{x:Nat}(h:x≤2305843009213693950):37^x % 2305843009213693951≠0:=by
 intro h0;have h1:37^2305843009213693950 % 2305843009213693951=37^x*37^(2305843009213693950-x) % 2305843009213693951:=by rw[←Nat.pow_add];congr 2;omega
 rw[Nat.mul_mod,h0,Nat.zero_mul,Nat.zero_mod,T5]at h1;exact absurd h1 (by decide)
theorem T2{k:Key}(h:k.right=true):1≤k.pub∧k.pub<2305843009213693951:=by
 obtain⟨h1,h2,h3⟩:=Key.right_iff.1 h;have :=GG 37 k.secret.toNat;have h4:=Kc 37 (e:=k.secret.toNat) (by omega)
 have h5:=pow_pos (x:=k.secret.toNat) (by omega)
 rw[←h4]at h5;omega
theorem Zg6(u e x:Nat)(he:e≤2305843009213693950):37^((u+e*x) % 2305843009213693950) % 2305843009213693951*((37^x % 2305843009213693951)^(2305843009213693950-e) % 2305843009213693951) % 2305843009213693951=37^u % 2305843009213693951:=by
 rw[ZcX,←Nat.pow_mod,←Nat.pow_mul,←Nat.mul_mod,←Nat.pow_add]
 have:u+e*x+x*(2305843009213693950-e)=u+2305843009213693950*x:=by
  rw[Nat.mul_comm e x,Nat.add_assoc,←Nat.mul_add,Nat.add_sub_cancel' he,Nat.mul_comm]
 rw[this,Nat.pow_add,Nat.mul_mod,T4,Nat.mul_one,Nat.mod_mod]
theorem Zav{k:Key}(h:k.right=true)(m:By):HQ k.pub m (EF k m)=true:=by
 obtain⟨p1,p2⟩:=T2 h;obtain⟨h1,h2,h3⟩:=Key.right_iff.1 h;have hu:=NO (hash (text wNonce++Ai k.secret++text m));change 1≤nonce k m∧nonce k m<2305843009213693950 at hu;unfold EF;rw[if_pos h];have he:=Q8 (Bq 37 (nonce k m)) k.pub m;have hs:(nonce k m+D3 (Bq 37 (nonce k m)) k.pub m*k.secret.toNat) % 2305843009213693950<2305843009213693950:=Nat.mod_lt _ (by decide)
 have hc:Fg k.pub ⟨D3 (Bq 37 (nonce k m)) k.pub m,((nonce k m+D3 (Bq 37 (nonce k m)) k.pub m*k.secret.toNat) % 2305843009213693950:Nat)⟩=Bq 37 (nonce k m):=by
  generalize D3 (Bq 37 (nonce k m)) k.pub m=e at *;unfold Fg;simp only[Int.toNat_natCast];rw[h3,Int.toNat_natCast,show(2305843009213693950-(e:Int)).toNat=2305843009213693950-e from by omega]
  rw[Kc _ (show 2305843009213693950-e<2^64 by omega),Kc _ (show k.secret.toNat<2^64 by omega),Kc _ (show(nonce k m+e*k.secret.toNat) % 2305843009213693950<2^64 by omega),Kc _ (show nonce k m<2^64 by omega)]
  exact Zg6 _ _ _ (by omega)
 unfold HQ;rw[hc];generalize D3 (Bq 37 (nonce k m)) k.pub m=e at *;generalize (nonce k m+e*k.secret.toNat) % 2305843009213693950=s at *;simp only[GN,Bool.and_eq_true,decide_eq_true_eq];refine⟨⟨⟨⟨p1,p2⟩,?_,?_⟩,?_,?_⟩,trivial⟩<;>omega
theorem Zbq(k:Key)(m:By):0≤(EF k m).e∧(EF k m).e≤2305843009213693949∧0≤(EF k m).s∧(EF k m).s≤2305843009213693949:=by
 unfold EF;split
 ·have he:=Q8 (Bq 37 (nonce k m)) k.pub m
  have hs:(nonce k m+D3 (Bq 37 (nonce k m)) k.pub m*k.secret.toNat) % 2305843009213693950<2305843009213693950:=Nat.mod_lt _ (by decide)
  simp only
  omega
 ·simp
end Sg
end
section
namespace Ac
open Tryz
open Go Co Sg
def FX(b:UInt8):Bool:=(decide (48≤b.toNat)&&decide (b.toNat≤57))||(decide (97≤b.toNat)&&decide (b.toNat≤102))
def Bw(s:By):Bool:=decide (s.length=16)&&s.all FX
def C0(b:UInt8):Bool:=decide (97≤b.toNat)&&decide (b.toNat≤122)
def Do(b:UInt8):Bool:=C0 b||(decide (48≤b.toNat)&&decide (b.toNat≤57))||decide (b.toNat=95)
def Cd:By→Bool
 |[]=>false
 |c::r=>decide (r.length≤23)&&C0 c&&r.all Do
def Jz:List By→Bool
 |a::b::r=>!(Op.bytesLess b a||b==a)&&Jz (b::r)
 |_=>true
def CJ(l:List By):Bool:=decide (l.length≤64)&&l.all Bw&&Jz l
structure Box where
 nonce:By
 data:By
 tag:By
 deriving DecidableEq
structure Wrap where
 to:Int
 eph:Int
 box:Box
 deriving DecidableEq
structure Act where
 author:By
 seq:Int
 prev:By
 kind:Int
 time:Int
 object:By
 target:By
 scope:Int
 group:By
 to:List By
 text:By
 body:Box
 epoch:Int
 wraps:List Wrap
 n:Int
 m:Int
 sig:Sig
 deriving DecidableEq
def CR:Box:=⟨[],[],[]⟩
def Cn:Sig:=⟨0,0⟩
def Al:Act:=⟨[],0,[],0,0,[],[],0,[],[],[],CR,0,[],0,0,Cn⟩
def wi(n lo hi:Int):Bool:=decide (lo≤n)&&decide (n≤hi)
theorem Ch{n lo hi:Int}:wi n lo hi=true↔lo≤n∧n≤hi:=by simp[wi]
def dig(s:By):Bool:=decide (s.length=32)
def Dg(s:By):Bool:=decide (s.length≤500)
def pub(n:Int):Bool:=wi n 1 2305843009213693950
def EG(b:Box):Bool:=decide (b.nonce.length=32)&&decide (b.tag.length=16)&&Dg b.data
def Cv(w:Wrap):Bool:=pub w.to&&pub w.eph&&EG w.box
def Fp(a:Act):Bool:=a.wraps.all Cv&&decide (a.wraps.length=a.to.length)
def Ge(scope:Int)(group:By):Bool:=if scope=2 then Cd group else if scope=1∨scope=3 then decide (group=[])else false
def Ey(a:Act):Bool:=
 CJ a.to&&(if a.scope=0 then decide (a.group=[])&&decide (a.epoch=0)&&Dg a.text&&decide (a.body=CR)
  else(decide (a.to=[])||decide (a.scope=3))&&Ge a.scope a.group&&wi a.epoch 0 1073741824&&decide (a.text=[])&&EG a.body)
def home(a:Act):Bool:=pub a.n&&wi a.m 0 19
def grant(a:Act):Bool:=Ge a.scope a.group&&wi a.epoch 0 1073741824&&CJ a.to&&Fp a
def label(a:Act):Bool:=Cd a.text&&((dig a.object&&decide (a.target=[]))||(Bw a.target&&decide (a.object=[])))
def setup(a:Act):Bool:=decide (0<a.to.length)&&CJ a.to&&Fp a&&wi a.n 1 a.to.length&&pub a.m
def BE(z:Bool)(f s:Int):Int:=if z then s else Go.bits .or .i64 s f
def IR(a:Act):Int:=
 BE (decide (a.m=0)) 1024 <| BE (decide (a.n=0)) 512 <| BE (decide (a.wraps=[])) 256 <| BE (decide (a.epoch=0)) 128 <| BE (decide (a.body=CR)) 64 <|
 BE (decide (a.text=[])) 32 <| BE (decide (a.to=[])) 16 <| BE (decide (a.group=[])) 8 <| BE (decide (a.scope=0)) 4 <| BE (decide (a.target=[])) 2 <| BE (decide (a.object=[])) 1 0
inductive Ru where
 |begin|post|reply|about|tie|reason|circle|grant|label|move|setup|judge|list
 deriving DecidableEq
def Ru.mask:Ru→Int
 |.begin=>1568
 |.post=>252
 |.reply=>253
 |.about=>1
 |.tie=>2
 |.reason=>33
 |.circle=>24
 |.grant=>412
 |.label=>35
 |.move=>1536
 |.setup=>1808
 |.judge=>513
 |.list=>546
def Ru.ok(a:Act):Ru→Bool
 |.begin=>Cd a.text&&home a
 |.post=>Ey a
 |.reply=>dig a.object&&Ey a
 |.about=>dig a.object
 |.tie=>Bw a.target
 |.reason=>dig a.object&&Dg a.text
 |.circle=>Cd a.group&&CJ a.to
 |.grant=>Ac.grant a
 |.label=>Ac.label a
 |.move=>home a
 |.setup=>Ac.setup a
 |.judge=>dig a.object&&wi a.n 0 1
 |.list=>Bw a.target&&Dg a.text&&wi a.n 0 1099511627776
def J7:List (Int×Ru):=[(0,.begin),(1,.post),(2,.reply),(3,.reply),(14,.reply),(4,.about),(5,.about),(6,.about),(13,.about),(20,.about),(7,.tie),(8,.tie),(9,.tie),(10,.tie),(11,.tie),(12,.reason),(21,.reason),(15,.circle),(16,.grant),(17,.label),(18,.move),(19,.setup),(22,.judge),(23,.list)]
def FP(k:Int):Option Ru:=J7.lookup k
def placed(a:Act):Bool:=if a.seq=0 then decide (a.kind=0)&&decide (a.prev=[])else wi a.seq 1 1073741824&&decide (a.kind≠0)&&dig a.prev
def BQ(s:Sig):Bool:=wi s.e 0 2305843009213693949&&wi s.s 0 2305843009213693949
def right(a:Act):Bool:=Bw a.author&&placed a&&wi a.time 0 1099511627776&&BQ a.sig &&
 (match FP a.kind with
 |none=>false
 |some r=>decide (Go.bits .andNot .i64 (IR a) r.mask=0)&&r.ok a)
def Cx(k:Int):Bool:=decide (k=1)||decide (k=2)||decide (k=3)
def FG(b:Box):By:=text b.nonce++text b.data++text b.tag
def Cg(w:Wrap):By:=Ai w.to++Ai w.eph++FG w.box
abbrev FN:By:=[97,99,116]
def Gt(a:Act):By:=
 text FN++text a.author++Ai a.seq++text a.prev++Ai a.kind++Ai a.time++text a.object++text a.target++Ai a.scope++text a.group++list a.to++text a.text++FG a.body++Ai a.epoch++num a.wraps.length++(a.wraps.map Cg).flatten++Ai a.n++Ai a.m
def Bx(a:Act):By:=if right a then Gt a else []
def bytes(a:Act):By:=if right a then Gt a++Ai a.sig.e++Ai a.sig.s else []
def TW(x:R):Box×R:=(⟨x.text.1,x.text.2.text.1,x.text.2.text.2.text.1⟩,x.text.2.text.2.text.2)
def BR(x:R):Int×R:=((x.num.1:Int),x.num.2)
def LJ(x:R):Wrap×R:=
 let a:=BR x
 let b:=BR a.2
 let c:=TW b.2
 (⟨a.1,b.1,c.1⟩,c.2)
def NP:Nat→R→Option (List Wrap)×R
 |0,x=>(some [],x)
 |n+1,x=>if(LJ x).2.rest=[]then(none,(LJ x).2)else((NP n (LJ x).2).1.map ((LJ x).1 :: ·),(NP n (LJ x).2).2)
def ZcJ(x:R):List Wrap×R:=((NP x.num.1 x.num.2).1.getD [],(NP x.num.1 x.num.2).2)
def PO(x:R):Act×R:=
 let author:=x.text
 let seq:=BR author.2
 let prev:=seq.2.text
 let kind:=BR prev.2
 let time:=BR kind.2
 let object:=time.2.text
 let target:=object.2.text
 let scope:=BR target.2
 let group:=scope.2.text
 let to:=group.2.list
 let text:=to.2.text
 let body:=TW text.2
 let epoch:=BR body.2
 let wraps:=ZcJ epoch.2
 let n:=BR wraps.2
 let m:=BR n.2
 let e:=BR m.2
 let s:=BR e.2
 (⟨author.1,seq.1,prev.1,kind.1,time.1,object.1,target.1,scope.1,group.1,to.1,text.1,body.1,epoch.1,wraps.1,n.1,m.1,⟨e.1,s.1⟩⟩,s.2)
def _root_.Go.Proofs.YtipfggegddlgdaaGreatDoor.Co.R.done(x:R):Bool:=!x.bad&&x.rest==[]
def read(s:By):Act×Bool:=
 let x:R:=⟨s,false⟩
 if x.text.1=FN∧(PO x.text.2).2.done=true∧bytes (PO x.text.2).1=s then((PO x.text.2).1,true)else(Al,false)
def Bs(k:Key)(a:Act):Act:=
 let b:={ a with sig:=Cn }
 if right b&&k.right then { b with sig:=EF k (Bx b) } else Al
def BO(p:Int)(a:Act):Bool:=right a&&HQ p (Bx a) a.sig
def same(a b:Act):Bool:=decide (a=b)
def Zaz(o t s g l x b e w n m:Bool):Int:=
 BE m 1024 <| BE n 512 <| BE w 256 <| BE e 128 <| BE b 64 <| BE x 32 <| BE l 16 <| BE g 8 <| BE s 4 <| BE t 2 <| BE o 1 0
def Dc(o t s g l x b e w n m:Bool):Ru→Bool
 |.begin=>o&&t&&s&&g&&l&&b&&e&&w
 |.post=>o&&t&&w&&n&&m
 |.reply=>t&&w&&n&&m
 |.about=>t&&s&&g&&l&&x&&b&&e&&w&&n&&m
 |.tie=>o&&s&&g&&l&&x&&b&&e&&w&&n&&m
 |.reason=>t&&s&&g&&l&&b&&e&&w&&n&&m
 |.circle=>o&&t&&s&&x&&b&&e&&w&&n&&m
 |.grant=>o&&t&&x&&b&&n&&m
 |.label=>s&&g&&l&&b&&e&&w&&n&&m
 |.move=>o&&t&&s&&g&&l&&x&&b&&e&&w
 |.setup=>o&&t&&s&&g&&x&&b&&e
 |.judge=>t&&s&&g&&l&&x&&b&&e&&w&&m
 |.list=>o&&s&&g&&l&&b&&e&&w&&m
theorem UQ(r:Ru):∀o t s g l x b e w n m:Bool,decide (Go.bits .andNot .i64 (Zaz o t s g l x b e w n m) r.mask=0)=Dc o t s g l x b e w n m r:=by
 cases r<;>decide +kernel
def out(a:Act)(r:Ru):Bool:=Dc (decide (a.object=[])) (decide (a.target=[])) (decide (a.scope=0)) (decide (a.group=[])) (decide (a.to=[])) (decide (a.text=[])) (decide (a.body=CR)) (decide (a.epoch=0)) (decide (a.wraps=[])) (decide (a.n=0)) (decide (a.m=0)) r
theorem right_iff{a:Act}:right a=true↔Bw a.author=true∧placed a=true∧wi a.time 0 1099511627776=true∧BQ a.sig=true ∧ ∃r,FP a.kind=some r∧out a r=true∧r.ok a=true:=by
 unfold right;cases h:FP a.kind with
 |none=>simp
 |some r=>
  have e:decide (Go.bits .andNot .i64 (IR a) r.mask=0)=out a r:=UQ r _ _ _ _ _ _ _ _ _ _ _;simp only[e,Bool.and_eq_true,and_assoc,Option.some.injEq,exists_eq_left']
theorem Zb5{k:Int}{r:Ru}(h:FP k=some r):(k,r)∈J7:=by
 unfold FP at h;generalize J7=l at h ⊢;induction l with
 |nil=>cases h
 | cons p l ih=>
  obtain⟨j,s⟩:=p;rw[List.lookup_cons]at h;by_cases e:k=j
  ·subst e
   simp at h
   subst h;simp
  ·rw[show(k==j)=false by simpa using e]at h
   exact List.mem_cons_of_mem _ (ih h)
theorem Tr{k:Int}{r:Ru}(h:FP k=some r):0≤k∧k≤23:=by
 have :=Zb5 h;simp only[J7,List.mem_cons,Prod.mk.injEq,List.not_mem_nil,or_false]at this;omega
theorem Zb4{k:Int}(h:k<0∨23<k):FP k=none:=by
 cases e:FP k with
 |none=>rfl
 |some r=>have :=Tr e;omega
theorem Ig{s:By}(h:Bw s=true):s.length=16:=by simp only[Bw,Bool.and_eq_true,decide_eq_true_eq]at h;exact h.1
theorem NZ{s:By}(h:Cd s=true):s.length≤24:=by
 cases s with
 |nil=>cases h
 |cons c r=>simp only[Cd,Bool.and_eq_true,decide_eq_true_eq]at h;simp only[List.length_cons];omega
theorem Mb{l:List By}(h:CJ l=true):l.length≤64 ∧ ∀s∈l,s.length=16:=by
 simp only[CJ,Bool.and_eq_true,decide_eq_true_eq,List.all_eq_true]at h;exact⟨h.1.1,fun s hs=>Ig (h.1.2 s hs)⟩
theorem Tj{sc:Int}{g:By}(h:Ge sc g=true):g.length≤24∧1≤sc∧sc≤3:=by
 unfold Ge at h;split at h
 ·exact⟨NZ h,by omega,by omega⟩
 ·split at h
  ·have h:=of_decide_eq_true h;subst h;exact⟨by simp,by omega,by omega⟩
  ·cases h
theorem PC{b:Box}(h:EG b=true):b.nonce.length=32∧b.tag.length=16∧b.data.length≤500:=by
 simp only[EG,Dg,Bool.and_eq_true,decide_eq_true_eq]at h;exact⟨h.1.1,h.1.2,h.2⟩
structure Sm(a:Act):Prop where
 author:a.author.length≤16
 seq:0≤a.seq∧a.seq≤1073741824
 prev:a.prev.length≤32
 kind:0≤a.kind∧a.kind≤23
 time:0≤a.time∧a.time≤1099511627776
 object:a.object.length≤32
 target:a.target.length≤16
 scope:0≤a.scope∧a.scope≤3
 group:a.group.length≤24
 to:a.to.length≤64 ∧ ∀s∈a.to,s.length=16
 text:a.text.length≤500
 body:a.body.nonce.length≤32∧a.body.data.length≤500∧a.body.tag.length≤16
 epoch:0≤a.epoch∧a.epoch≤1073741824
 wraps:a.wraps.length≤64 ∧ ∀w∈a.wraps,Cv w=true
 n:0≤a.n∧a.n≤2305843009213693950
 m:0≤a.m∧a.m≤2305843009213693950
 sig:BQ a.sig=true
theorem Jr{s:By}(h:dig s=true):s.length≤32:=by have :=of_decide_eq_true h;omega
theorem J0{s:By}(h:Dg s=true):s.length≤500:=of_decide_eq_true h
theorem R4{a:Act}(h:Fp a=true)(ht:a.to.length≤64):a.wraps.length≤64 ∧ ∀w∈a.wraps,Cv w=true:=by
 simp only[Fp,Bool.and_eq_true,decide_eq_true_eq,List.all_eq_true]at h;exact⟨by omega,h.1⟩
structure Aud(a:Act):Prop where
 scope:0≤a.scope∧a.scope≤3
 group:a.group.length≤24
 to:a.to.length≤64 ∧ ∀s∈a.to,s.length=16
 text:a.text.length≤500
 body:a.body.nonce.length≤32∧a.body.data.length≤500∧a.body.tag.length≤16
 epoch:0≤a.epoch∧a.epoch≤1073741824
theorem Yn{a:Act}(h:Ey a=true):Aud a:=by
 unfold Ey at h;rw[Bool.and_eq_true]at h;obtain⟨h1,h2⟩:=h;have h1:=Mb h1;split at h2
 ·rename_i h0
  simp only[Bool.and_eq_true,decide_eq_true_eq]at h2;obtain⟨⟨⟨a1,a2⟩,a3⟩,a4⟩:=h2;exact⟨by omega,by rw[a1];simp,h1,J0 a3,by rw[a4];simp[CR],by omega⟩
 ·simp only[Bool.and_eq_true,decide_eq_true_eq,Ch]at h2
  obtain⟨⟨⟨⟨_,a1⟩,a2⟩,a3⟩,a4⟩:=h2;have b1:=Tj a1;have b4:=PC a4;exact⟨by omega,b1.1,h1,by rw[a3];simp,by omega,a2⟩
theorem Cp{a:Act}(h:right a=true):Sm a:=by
 obtain⟨h1,h2,h3,h4,r,h5,h6,h7⟩:=right_iff.1 h;have k:=Tr h5;have hp:a.prev.length≤32∧0≤a.seq∧a.seq≤1073741824:=by
  unfold placed at h2;split at h2
  ·simp only[Bool.and_eq_true,decide_eq_true_eq]at h2;rw[h2.2];simp;omega
  ·simp only[Bool.and_eq_true,decide_eq_true_eq,Ch]at h2;have :=Jr h2.2;omega
 have h1:=Ig h1;rw[Ch]at h3;clear h2;cases r<;>simp only[out,Dc,Bool.and_eq_true,decide_eq_true_eq]at h6<;>simp only[Ru.ok,Bool.and_eq_true]at h7
 case begin=>
  obtain⟨⟨⟨⟨⟨⟨⟨a1,a2⟩,a3⟩,a4⟩,a5⟩,a6⟩,a7⟩,a8⟩:=h6;obtain⟨b1,b2⟩:=h7;simp only[home,pub,Bool.and_eq_true,Ch]at b2;have :=NZ b1;exact⟨by omega,hp.2,hp.1,k,h3,by simp[a1],by simp[a2],by omega,by simp[a4],by simp[a5],by omega,by simp[a6,CR],by omega,by simp[a8],by omega,by omega,h4⟩
 case post=>
  obtain⟨⟨⟨⟨a1,a2⟩,a3⟩,a4⟩,a5⟩:=h6;have c:=Yn h7;exact⟨by omega,hp.2,hp.1,k,h3,by simp[a1],by simp[a2],c.scope,c.group,c.to,c.text,c.body,c.epoch,by simp[a3],by omega,by omega,h4⟩
 case reply=>
  obtain⟨⟨⟨a2,a3⟩,a4⟩,a5⟩:=h6;have c:=Yn h7.2;exact⟨by omega,hp.2,hp.1,k,h3,Jr h7.1,by simp[a2],c.scope,c.group,c.to,c.text,c.body,c.epoch,by simp[a3],by omega,by omega,h4⟩
 case about=>
  obtain⟨⟨⟨⟨⟨⟨⟨⟨⟨a1,a2⟩,a3⟩,a4⟩,a5⟩,a6⟩,a7⟩,a8⟩,a9⟩,a10⟩:=h6;exact⟨by omega,hp.2,hp.1,k,h3,Jr h7,by simp[a1],by omega,by simp[a3],by simp[a4],by simp[a5],by simp[a6,CR],by omega,by simp[a8],by omega,by omega,h4⟩
 case tie=>
  obtain⟨⟨⟨⟨⟨⟨⟨⟨⟨a1,a2⟩,a3⟩,a4⟩,a5⟩,a6⟩,a7⟩,a8⟩,a9⟩,a10⟩:=h6;have :=Ig h7;exact⟨by omega,hp.2,hp.1,k,h3,by simp[a1],by omega,by omega,by simp[a3],by simp[a4],by simp[a5],by simp[a6,CR],by omega,by simp[a8],by omega,by omega,h4⟩
 case reason=>
  obtain⟨⟨⟨⟨⟨⟨⟨⟨a1,a2⟩,a3⟩,a4⟩,a6⟩,a7⟩,a8⟩,a9⟩,a10⟩:=h6;exact⟨by omega,hp.2,hp.1,k,h3,Jr h7.1,by simp[a1],by omega,by simp[a3],by simp[a4],J0 h7.2,by simp[a6,CR],by omega,by simp[a8],by omega,by omega,h4⟩
 case circle=>
  obtain⟨⟨⟨⟨⟨⟨⟨⟨a1,a2⟩,a3⟩,a5⟩,a6⟩,a7⟩,a8⟩,a9⟩,a10⟩:=h6;have g:=NZ h7.1;exact⟨by omega,hp.2,hp.1,k,h3,by simp[a1],by simp[a2],by omega,g,Mb h7.2,by simp[a5],by simp[a6,CR],by omega,by simp[a8],by omega,by omega,h4⟩
 case grant=>
  obtain⟨⟨⟨⟨⟨a1,a2⟩,a5⟩,a6⟩,a9⟩,a10⟩:=h6;simp only[grant,Bool.and_eq_true,Ch]at h7;obtain⟨⟨⟨b1,b2⟩,b3⟩,b4⟩:=h7;have c1:=Tj b1;have c3:=Mb b3;exact⟨by omega,hp.2,hp.1,k,h3,by simp[a1],by simp[a2],by omega,c1.1,c3,by simp[a5],by simp[a6,CR],b2,R4 b4 c3.1,by omega,by omega,h4⟩
 case label=>
  obtain⟨⟨⟨⟨⟨⟨⟨a3,a4⟩,a5⟩,a6⟩,a7⟩,a8⟩,a9⟩,a10⟩:=h6;simp only[label,Bool.and_eq_true,Bool.or_eq_true,decide_eq_true_eq]at h7;have b1:=NZ h7.1;have b2:a.object.length≤32∧a.target.length≤16:=by
   rcases h7.2 with⟨x,y⟩|⟨x,y⟩
   ·exact⟨Jr x,by simp[y]⟩
   ·exact⟨by simp[y],by have :=Ig x;omega⟩
  exact⟨by omega,hp.2,hp.1,k,h3,b2.1,b2.2,by omega,by simp[a4],by simp[a5],by omega,by simp[a6,CR],by omega,by simp[a8],by omega,by omega,h4⟩
 case move=>
  obtain⟨⟨⟨⟨⟨⟨⟨⟨a1,a2⟩,a3⟩,a4⟩,a5⟩,a6⟩,a7⟩,a8⟩,a9⟩:=h6;simp only[home,pub,Bool.and_eq_true,Ch]at h7;exact⟨by omega,hp.2,hp.1,k,h3,by simp[a1],by simp[a2],by omega,by simp[a4],by simp[a5],by simp[a6],by simp[a7,CR],by omega,by simp[a9],by omega,by omega,h4⟩
 case setup=>
  obtain⟨⟨⟨⟨⟨⟨a1,a2⟩,a3⟩,a4⟩,a6⟩,a7⟩,a8⟩:=h6;simp only[setup,pub,Bool.and_eq_true,Ch,decide_eq_true_eq]at h7;obtain⟨⟨⟨⟨b0,b1⟩,b2⟩,b3⟩,b4⟩:=h7;have c1:=Mb b1;exact⟨by omega,hp.2,hp.1,k,h3,by simp[a1],by simp[a2],by omega,by simp[a4],c1,by simp[a6],by simp[a7,CR],by omega,R4 b2 c1.1,by omega,by omega,h4⟩
 case judge=>
  obtain⟨⟨⟨⟨⟨⟨⟨⟨a1,a2⟩,a3⟩,a4⟩,a5⟩,a6⟩,a7⟩,a8⟩,a10⟩:=h6;rw[Ch]at h7;exact⟨by omega,hp.2,hp.1,k,h3,Jr h7.1,by simp[a1],by omega,by simp[a3],by simp[a4],by simp[a5],by simp[a6,CR],by omega,by simp[a8],by omega,by omega,h4⟩
 case list=>
  obtain⟨⟨⟨⟨⟨⟨⟨a1,a2⟩,a3⟩,a4⟩,a6⟩,a7⟩,a8⟩,a10⟩:=h6;simp only[Bool.and_eq_true,Ch]at h7;obtain⟨⟨b1,b2⟩,b3⟩:=h7;have :=Ig b1;exact⟨by omega,hp.2,hp.1,k,h3,by simp[a1],by omega,by omega,by simp[a3],by simp[a4],J0 b2,by simp[a6,CR],by omega,by simp[a8],by omega,by omega,h4⟩
def Pk(a:Act)(rest:By):By:=
 text a.author++(Ai a.seq++(text a.prev++(Ai a.kind++(Ai a.time++(text a.object++(text a.target++(Ai a.scope++(text a.group++(list a.to++(text a.text++(FG a.body++(Ai a.epoch++(num a.wraps.length++((a.wraps.map Cg).flatten++(Ai a.n++(Ai a.m++(Ai a.sig.e++(Ai a.sig.s++rest))))))))))))))))))
theorem ZgX(a:Act)(rest:By):Gt a++Ai a.sig.e++Ai a.sig.s++rest=text FN++Pk a rest:=by
 unfold Gt Pk;simp only[List.append_assoc]
theorem ZdC{n:Int}(h:0≤n):Ai n≠[]:=by
 unfold Ai;rw[if_neg (by omega)]
 intro e;have :=Us n.toNat;rw[e]at this;simp at this
theorem Mx{a:Act}(h:right a=true):bytes a=text FN++Pk a []:=by
 unfold bytes;rw[if_pos h,←ZgX,List.append_nil]
theorem bytes_ne{a:Act}(h:right a=true):bytes a≠[]:=by
 rw[Mx h];simp[text,H8]
theorem bytes_wrong{a:Act}(h:right a=false):bytes a=[]∧Bx a=[]:=by
 unfold bytes Bx;simp[h]
theorem Q4{a:Act}(h:right a=true):Bx a≠[]:=by
 unfold Bx Gt;rw[if_pos h];simp[text,H8]
theorem ZhK(a:Act):bytes a=if Bx a=[]then []else Bx a++Ai a.sig.e++Ai a.sig.s:=by
 cases h:right a with
 |false=>rw[(bytes_wrong h).1,(bytes_wrong h).2];rfl
 |true=>
  rw[if_neg (Q4 h)];unfold bytes Bx;rw[if_pos h,if_pos h]
theorem Zcm(a:Act)(s:Sig)(hs:BQ s=true)(h:right a=true):right { a with sig:=s }=true:=by
 obtain⟨h1,h2,h3,h4,r,h5,h6,h7⟩:=right_iff.1 h;refine right_iff.2 ⟨h1,h2,h3,hs,r,h5,h6,?_⟩
 cases r<;>exact h7
theorem Zbp{a:Act}{k:Key}(h:right { a with sig:=Cn }=true)(hk:k.right=true):Bs k a={ a with sig:=EF k (Bx { a with sig:=Cn }) }∧right (Bs k a)=true∧Bx (Bs k a)=Bx { a with sig:=Cn }:=by
 have e:Bs k a={ a with sig:=EF k (Bx { a with sig:=Cn }) }:=by
  unfold Bs;simp only
  rw[h,hk];rfl
 have hr:=Zbq k (Bx { a with sig:=Cn })
 have hs:BQ (EF k (Bx { a with sig:=Cn }))=true:=by
  simp only[BQ,Bool.and_eq_true,Ch];omega
 have hr:right (Bs k a)=true:=by
  rw[e];exact Zcm { a with sig:=Cn } _ hs h
 refine⟨e,hr,?_⟩
 unfold Bx;rw[if_pos hr,if_pos h,e];rfl
theorem S6{a:Act}{k:Key}(h:right { a with sig:=Cn }=true)(hk:k.right=true):BO k.pub (Bs k a)=true:=by
 obtain⟨e,hr,hc⟩:=Zbp h hk;unfold BO;rw[hr,hc,e];simp only[Bool.true_and];exact Zav hk _
end Ac
end
section
namespace It
open Tryz
open Go Co Sg Ac
structure Claim where
 actor:By
 base:Int
 prev:By
 gen:Int
 home:Int
 pub:Int
 time:Int
 sig:Sig
 deriving DecidableEq
structure Ballot where
 server:Int
 actor:By
 gen:Int
 claim:By
 time:Int
 sig:Sig
 deriving DecidableEq
structure Decision where
 server:Int
 number:Int
 kind:Int
 actor:By
 object:By
 text:By
 to:List By
 n:Int
 frm:Int
 til:Int
 sig:Sig
 deriving DecidableEq
structure Item where
 kind:Int
 act:Ac.Act
 claim:Claim
 ballot:Ballot
 decision:Decision
 deriving DecidableEq
structure Entry where
 time:Int
 item:Item
 deriving DecidableEq
def Ei:Claim:=⟨[],0,[],0,0,0,0,Cn⟩
def Gv:Ballot:=⟨0,[],0,[],0,Cn⟩
def FF:Decision:=⟨0,0,0,[],[],[],[],0,0,0,Cn⟩
def Et:Item:=⟨0,Al,Ei,Gv,FF⟩
def Km(n:Int):Bool:=wi n 0 19
def G8(n:Int):Bool:=wi n 0 1099511627776
def I2(c:Claim):Bool:=Bw c.actor&&wi c.base 1 1073741824&&dig c.prev&&wi c.gen 0 1073741824&&Km c.home&&wi c.pub 1 2305843009213693950&&G8 c.time&&BQ c.sig
def I3(b:Ballot):Bool:=Km b.server&&Bw b.actor&&wi b.gen 0 1073741824&&dig b.claim&&G8 b.time&&BQ b.sig
def LN(d:Decision):Bool:=decide (d.to=[])&&decide (d.n=0)
def TK(d:Decision):Bool:=
 if d.kind=0∨d.kind=1∨d.kind=4∨d.kind=6∨d.kind=7 then Bw d.actor&&decide (d.object=[])&&Dg d.text&&LN d
 else if d.kind=2∨d.kind=3∨d.kind=5 then decide (d.actor=[])&&dig d.object&&Dg d.text&&LN d
 else if d.kind=8 then decide (d.actor=[])&&decide (d.object=[])&&Dg d.text&&CJ d.to&&wi d.n 1 d.to.length
 else if d.kind=9 then decide (d.actor=[])&&decide (d.object=[])&&decide (d.text.length≤4096)&&LN d
 else false
def I1(d:Decision):Bool:=Km d.server&&wi d.number 0 1073741824&&G8 d.frm&&G8 d.til&&decide (d.frm<d.til)&&TK d&&BQ d.sig
def rest(it:Item):Item:=
 if it.kind=0 then { it with kind:=0,act:=Al } else if it.kind=1 then { it with kind:=0,claim:=Ei } else if it.kind=2 then { it with kind:=0,ballot:=Gv } else if it.kind=3 then { it with kind:=0,decision:=FF } else { it with kind:=0 }
def I0(it:Item):Bool:=if it.kind=0 then Ac.right it.act else if it.kind=1 then I2 it.claim else if it.kind=2 then I3 it.ballot else if it.kind=3 then I1 it.decision else false
def right(it:Item):Bool:=I0 it&&decide (rest it=Et)
def Q6(c:Claim):By:=text c.actor++Ai c.base++text c.prev++Ai c.gen++Ai c.home++Ai c.pub++Ai c.time
def Rk(b:Ballot):By:=Ai b.server++text b.actor++Ai b.gen++text b.claim++Ai b.time
def Q2(d:Decision):By:=Ai d.server++Ai d.number++Ai d.kind++text d.actor++text d.object++text d.text++list d.to++Ai d.n++Ai d.frm++Ai d.til
abbrev Zat:By:=[99,108,97,105,109]
abbrev Zau:By:=[98,97,108,108,111,116]
abbrev Zas:By:=[100,101,99,105,115,105,111,110]
def IU(it:Item):Sig:=if it.kind=1 then it.claim.sig else if it.kind=2 then it.ballot.sig else it.decision.sig
def OC(it:Item):By:=if it.kind=1 then Q6 it.claim else if it.kind=2 then Rk it.ballot else Q2 it.decision
def ZdL(it:Item):By:=if it.kind=1 then Zat else if it.kind=2 then Zau else Zas
def ZdS(it:Item):By:=text (ZdL it)++OC it
def S5(p:Int)(it:Item):Bool:=HQ p (ZdS it) (IU it)
def OI(it:Item):By:=if it.kind=0 then Ac.bytes it.act else OC it++(Ai (IU it).e++Ai (IU it).s)
def bytes(it:Item):By:=if right it then Ai it.kind++OI it else []
def PN(x:R):Sig×R:=(⟨(BR x).1,(BR (BR x).2).1⟩,(BR (BR x).2).2)
def TV(x:R):Claim×R:=
 let actor:=x.text
 let base:=BR actor.2
 let prev:=base.2.text
 let gen:=BR prev.2
 let home:=BR gen.2
 let pub:=BR home.2
 let time:=BR pub.2
 let s:=PN time.2
 (⟨actor.1,base.1,prev.1,gen.1,home.1,pub.1,time.1,s.1⟩,s.2)
def TX(x:R):Ballot×R:=
 let server:=BR x
 let actor:=server.2.text
 let gen:=BR actor.2
 let claim:=gen.2.text
 let time:=BR claim.2
 let s:=PN time.2
 (⟨server.1,actor.1,gen.1,claim.1,time.1,s.1⟩,s.2)
def TU(x:R):Decision×R:=
 let server:=BR x
 let number:=BR server.2
 let kind:=BR number.2
 let actor:=kind.2.text
 let object:=actor.2.text
 let text:=object.2.text
 let to:=text.2.list
 let n:=BR to.2
 let frm:=BR n.2
 let til:=BR frm.2
 let s:=PN til.2
 (⟨server.1,number.1,kind.1,actor.1,object.1,text.1,to.1,n.1,frm.1,til.1,s.1⟩,s.2)
def ZcK(x:R):Item×Bool×R:=
 let k:=BR x
 if k.1=0 then
  let t:=k.2.take k.2.rest.length
  let a:=Ac.read t.1
  ({ Et with act:=a.1 },a.2,t.2)
 else if k.1=1 then({ Et with kind:=1,claim:=(TV k.2).1 },true,(TV k.2).2)
 else if k.1=2 then({ Et with kind:=2,ballot:=(TX k.2).1 },true,(TX k.2).2)
 else if k.1=3 then({ Et with kind:=3,decision:=(TU k.2).1 },true,(TU k.2).2)
 else({ Et with kind:=k.1 },true,k.2)
def read(s:By):Item×Bool:=
 let x:=ZcK ⟨s,false⟩
 if x.2.1=true∧x.2.2.done=true∧s≠[]∧bytes x.1=s then(x.1,true)else(Et,false)
def digest(it:Item):By:=if bytes it=[]then []else Sm.sha (bytes it)
def Ay(a:Ac.Act):Item:={ Et with act:=a }
def Uo(c:Claim):Item:={ Et with kind:=1,claim:=c }
def claimed(p:Int)(c:Claim):Bool:=S5 p (Uo c)
def Td(it:Item):Int:=if it.kind=2 then it.ballot.server else it.decision.server
def signed(ps:List Int)(it:Item):Bool:=
 if right it then(if it.kind=2∨it.kind=3 then decide (Td it<ps.length)&&S5 (ps.getD (Td it).toNat 0) it else true)else false
def WP(e:Entry):By:=if G8 e.time&&right e.item then Ai e.time++bytes e.item else []
theorem TJ{it:Item}(h0:it.kind=0):right it=true↔Ac.right it.act=true∧it.claim=Ei∧it.ballot=Gv∧it.decision=FF:=by
 obtain⟨k,a,c,b,d⟩:=it;simp only at h0
 subst h0;simp[right,I0,rest,Et]
theorem TH{it:Item}(h0:it.kind=1):right it=true↔I2 it.claim=true∧it.act=Al∧it.ballot=Gv∧it.decision=FF:=by
 obtain⟨k,a,c,b,d⟩:=it;simp only at h0
 subst h0;simp[right,I0,rest,Et]
theorem TI{it:Item}(h0:it.kind=2):right it=true↔I3 it.ballot=true∧it.act=Al∧it.claim=Ei∧it.decision=FF:=by
 obtain⟨k,a,c,b,d⟩:=it;simp only at h0
 subst h0;simp[right,I0,rest,Et]
theorem TG{it:Item}(h0:it.kind=3):right it=true↔I1 it.decision=true∧it.act=Al∧it.claim=Ei∧it.ballot=Gv:=by
 obtain⟨k,a,c,b,d⟩:=it;simp only at h0
 subst h0;simp[right,I0,rest,Et]
theorem NJ{it:Item}(h:right it=true):it.kind=0∨it.kind=1∨it.kind=2∨it.kind=3:=by
 unfold right I0 at h;rw[Bool.and_eq_true]at h;have h:=h.1;split at h
 ·omega
 split at h
 ·omega
 split at h
 ·omega
 split at h
 ·omega
 ·cases h
structure SmC(c:Claim):Prop where
 actor:c.actor.length=16
 base:1≤c.base∧c.base≤1073741824
 prev:c.prev.length=32
 gen:0≤c.gen∧c.gen≤1073741824
 home:0≤c.home∧c.home≤19
 pub:1≤c.pub∧c.pub≤2305843009213693950
 time:0≤c.time∧c.time≤1099511627776
 sig:BQ c.sig=true
theorem XF{c:Claim}(h:I2 c=true):SmC c:=by
 simp only[I2,Km,G8,Bool.and_eq_true,Ch]at h;obtain⟨⟨⟨⟨⟨⟨⟨h1,h2⟩,h3⟩,h4⟩,h5⟩,h6⟩,h7⟩,h8⟩:=h;exact⟨Ig h1,h2,of_decide_eq_true h3,h4,h5,h6,h7,h8⟩
structure SmB(b:Ballot):Prop where
 server:0≤b.server∧b.server≤19
 actor:b.actor.length=16
 gen:0≤b.gen∧b.gen≤1073741824
 claim:b.claim.length=32
 time:0≤b.time∧b.time≤1099511627776
 sig:BQ b.sig=true
theorem Yl{b:Ballot}(h:I3 b=true):SmB b:=by
 simp only[I3,Km,G8,Bool.and_eq_true,Ch]at h;obtain⟨⟨⟨⟨⟨h1,h2⟩,h3⟩,h4⟩,h5⟩,h6⟩:=h;exact⟨h1,Ig h2,h3,of_decide_eq_true h4,h5,h6⟩
structure SmD(d:Decision):Prop where
 server:0≤d.server∧d.server≤19
 number:0≤d.number∧d.number≤1073741824
 kind:0≤d.kind∧d.kind≤9
 actor:d.actor.length≤16
 object:d.object.length≤32
 text:d.text.length≤4096
 to:d.to.length≤64 ∧ ∀s∈d.to,s.length=16
 n:0≤d.n∧d.n≤64
 frm:0≤d.frm∧d.frm≤1099511627776
 til:0≤d.til∧d.til≤1099511627776
 sig:BQ d.sig=true
theorem PZ{d:Decision}:LN d=true↔d.to=[]∧d.n=0:=by simp[LN]
theorem Xg{d:Decision}(h:I1 d=true):SmD d:=by
 simp only[I1,Km,G8,Bool.and_eq_true,Ch]at h;obtain⟨⟨⟨⟨⟨⟨h1,h2⟩,h3⟩,h4⟩,h5⟩,h6⟩,h7⟩:=h;have key:(0≤d.kind∧d.kind≤9)∧d.actor.length≤16∧d.object.length≤32∧d.text.length≤4096∧(d.to.length≤64 ∧ ∀s∈d.to,s.length=16)∧(0≤d.n∧d.n≤64):=by
  unfold TK at h6;split at h6
  ·simp only[Bool.and_eq_true,decide_eq_true_eq,PZ]at h6
   obtain⟨⟨⟨a1,a2⟩,a3⟩,a4,a5⟩:=h6;have :=Ig a1;have :=J0 a3;exact⟨by omega,by omega,by simp[a2],by omega,by simp[a4],by omega⟩
  split at h6
  ·simp only[Bool.and_eq_true,decide_eq_true_eq,PZ]at h6
   obtain⟨⟨⟨a1,a2⟩,a3⟩,a4,a5⟩:=h6;have :=J0 a3;exact⟨by omega,by simp[a1],Jr a2,by omega,by simp[a4],by omega⟩
  split at h6
  ·simp only[Bool.and_eq_true,decide_eq_true_eq,Ch]at h6
   obtain⟨⟨⟨⟨a1,a2⟩,a3⟩,a4⟩,a5⟩:=h6;have :=J0 a3;have :=Mb a4;exact⟨by omega,by simp[a1],by simp[a2],by omega,this,by omega⟩
  split at h6
  ·simp only[Bool.and_eq_true,decide_eq_true_eq,PZ]at h6
   obtain⟨⟨⟨a1,a2⟩,a3⟩,a4,a5⟩:=h6;exact⟨by omega,by simp[a1],by simp[a2],a3,by simp[a4],by omega⟩
  ·cases h6
 obtain⟨k1,k2,k3,k4,k5,k6⟩:=key;exact⟨h1,h2,k1,k2,k3,k4,k5,k6,h3,h4,h7⟩
theorem Mx{it:Item}(h:right it=true):bytes it=Ai it.kind++OI it:=by unfold bytes;rw[if_pos h]
theorem bytes_wrong{it:Item}(h:right it=false):bytes it=[]:=by unfold bytes;simp[h]
theorem bytes_ne{it:Item}(h:right it=true):bytes it≠[]:=by
 rw[Mx h];have hk:=NJ h;intro e;exact ZdC (by omega) (List.append_eq_nil_iff.1 e).1
theorem Zks{e:Entry}:(WP e≠[])↔(G8 e.time=true∧right e.item=true):=by
 unfold WP;constructor
 ·intro h
  split at h
  ·rename_i hc;simpa using hc
  ·exact absurd rfl h
 ·rintro⟨h1,h2⟩
  rw[if_pos (by rw[h1,h2];rfl)]
  intro e;exact bytes_ne h2 (List.append_eq_nil_iff.1 e).2
end It
end
section
namespace Pe
open Tryz
open Go Co
variable [Tab]
set_option maxRecDepth 100000
abbrev Av(l:List By):AV:=.sl .ro (l.map .st)
theorem KM{n:Int}(h:0≤n)(h':n<256):IntKind.u8.wrap n=n:=by
 show n % 2^8=n
 omega
theorem NU{n:Nat}(h:n<256):(UInt8.ofNat n).toNat=n:=by
 rw[UInt8.toNat_ofNat'];omega
theorem SZ(acc:By)(b:UInt8):acc.map u8++[AV.it .u8 (b.toNat:Int)]=(acc++[b]).map u8:=by simp[u8]
theorem DU(n:Int)(h:n<9223372036854775808)(h0:-9223372036854775808≤n):AC prog 111 [.it .i64 n] [] (.st (Ai n)) []:=by
 refine Ar [] [] func111 ?_;by_cases hn:n<0
 ·rw[show Ai n=[]from if_pos hn]
  refine run ?_;exact Ad
 obtain⟨k,rfl⟩:=Int.eq_ofNat_of_zero_le (show 0≤n by omega)
 rw[H9];refine run ?_;refine Cq (fun m e S=>∃(acc:By) (j:Nat),e 0=.it .i64 (j:Int)∧e 3=.sl (.own 0) (acc.map u8)∧S=[.buf acc.length 5 1]∧acc++num j=num k∧j≤k∧acc.length+j≤k∧m=j) k _ _ (Ao.reserve 0 3 (es:=[]) (by rfl) 5 1) ⟨[],k,Aa,Aa,rfl,rfl,Nat.le_refl _,by simp,rfl⟩ ?_
 rintro q e S ⟨acc,q,s0,s3,rfl,hnum,hj,hacc,rfl⟩
 have hal:acc.length≤8:=by
  have e1:=congrArg List.length hnum;have e2:=NW 8 k (by omega)
  have e3:=Us q;rw[List.length_append]at e1;omega
 by_cases hs:q<128
 ·have hb:IntKind.u8.wrap (q:Int)=((UInt8.ofNat q).toNat:Int):=by rw[KM (by omega) (by omega),NU (by omega)]
  have hsn:=SZ acc (UInt8.ofNat q);rw[H8 hs]at hnum;refine Ab (A4 @s0 @s3 @hb @hsn) ?_;rw[←hnum];exact Ad
 ·have ht:(q:Int).tmod 128=((q % 128:Nat):Int):=by rw[Int.tmod_eq_emod_of_nonneg (by omega)];omega
  have hd:(q:Int).tdiv 128=((q / 128:Nat):Int):=by rw[Int.tdiv_eq_ediv_of_nonneg (by omega)];omega
  have hb:IntKind.u8.wrap (128+((q % 128:Nat):Int))=((UInt8.ofNat (128+q % 128)).toNat:Int):=by rw[KM (by omega) (by omega),NU (by omega)];omega
  rw[LS hs]at hnum;refine Ab (A5 @s0 @s3 @ht @hd @hb) ?_;refine Aj (q / 128) (by omega) ⟨acc++[UInt8.ofNat (128+q % 128)],q / 128,Aa,by rw[←SZ];exact Aa,by rw[List.length_append];rfl,by rw[List.append_assoc];exact hnum,by omega,by rw[List.length_append,List.length_singleton];omega,rfl⟩
theorem EY(s:By)(h:s.length≤140737488355328):AC prog 110 [.st s] [] (.st (text s)) []:=by
 refine Ar [111] [] func110 ?_;have hl:=AI (s.length:Int) (by omega)
 refine run ?_;refine cp (DU s.length (by omega) (by omega)) ?_
 rw[H9]at *;refine run ?_;exact Ad
theorem EJ{n:Nat}(h:n<9223372036854775808):(num n).length≤9:=NW 8 n (by omega)
theorem BL{s:By}(h:s.length≤1000000):(text s).length≤1000009:=by
 have :=EJ (n:=s.length) (by omega)
 unfold text;rw[List.length_append];omega
theorem Wn{l:List By}{k:Nat}(hk:k<l.length):((l.take (k+1)).map text).flatten=((l.take k).map text).flatten++text l[k]:=by
 rw[List.take_succ_eq_append_getElem hk,List.map_append,List.flatten_append];congr 1
 exact List.append_nil _
theorem QM{l:List By}(hx:∀x∈l,x.length≤1000000):(l.map text).flatten.length≤l.length*1000009:=by
 induction l with
 |nil=>simp
 |cons a l ih=>
  have h1:=ih fun x h=>hx x (by simp[h])
  have h2:=BL (hx a (by simp))
  rw[List.map_cons,List.flatten_cons,List.length_append,List.length_cons,Nat.succ_mul];omega
theorem UY{l:List By}(hl:l.length≤1000000)(hx:∀x∈l,x.length≤1000000):(list l).length≤1000009000009:=by
 have :=EJ (n:=l.length) (by omega)
 have h2:=QM hx;have h3:l.length*1000009≤1000000*1000009:=Nat.mul_le_mul_right _ hl;unfold list;rw[List.length_append];omega
theorem Z7(l:List By)(hl:l.length≤1000000)(hx:∀x∈l,x.length≤1000000):AC prog 272 [Av l,.fn (.func 110) [] []] [] (.st (list l)) []:=by
 refine Ar [111,1000019] [] func272 ?_;have hn9:=EJ (n:=l.length) (by omega)
 refine run ?_;refine cp (DU l.length (by omega) (by omega)) ?_
 rw[H9];refine run ?_;refine AN (fun m e S=>e 1=.fn (.func 110) [] []∧e 12=Av l∧e 13=.it .i64 (l.length:Int) ∧ ∃(k:Nat) (acc:By),e 5=.sl (.own 0) (acc.map u8)∧e 14=.it .i64 (k:Int)∧S=[.buf acc.length 5 1]∧acc=num l.length++((l.take k).map text).flatten∧k≤l.length∧m=l.length-k) l.length
  ⟨Aa,Aa,Aa,0,num l.length,Aa,Aa,rfl,by simp,by omega,rfl⟩ ?_
 rintro m e S ⟨s1,s12,s13,k,acc,s5,s14,rfl,hacc,hk,rfl⟩
 by_cases hlt:k<l.length
 ·have ga:l[k]? = some l[k]:=List.getElem?_eq_getElem hlt
  have hxk:=hx l[k] (List.getElem_mem hlt);have htl:=BL hxk;have hal:acc.length≤1000009000009:=by
   have h1:=QM (l:=l.take k) fun x h=>hx x (List.mem_of_mem_take h)
   have h2:(l.take k).length*1000009≤1000000*1000009:=Nat.mul_le_mul_right _ (by rw[List.length_take];omega)
   rw[hacc,List.length_append];omega
  have hft:=Wn hlt;generalize l[k]=x at *;refine Ab (A6 @s1 @s5 @s12 @s13 @s14 @ga) ?_;refine cp (EY x (by omega)) ?_
  refine Ab (A5 @s1 @s5 @s12 @s13 @s14) ?_;refine Aj (l.length-(k+1)) (by omega) ⟨Aa,Aa,Aa,k+1,acc++text x,by rw[List.map_append];exact Aa,Aa,by rw[List.length_append],by rw[hacc,hft,List.append_assoc],by omega,rfl⟩
 ·obtain rfl:k=l.length:=by omega
  rw[List.take_length]at hacc;refine Ab (A5 @s1 @s5 @s12 @s13 @s14) ?_;rw[show list l=acc from hacc.symm]
  exact Ad
theorem Zed(l:List By)(hl:l.length≤1000000)(hx:∀x∈l,x.length≤1000000):AC prog 187 [Av l] [] (.st (list l)) []:=by
 refine Ar [272] [] func187 ?_;refine run ?_;refine cp (Z7 l hl hx) ?_;refine run ?_;exact Ad
end Pe
end
section
namespace Pe
open Tryz
open Go Co Ac
variable [Tab]
set_option maxRecDepth 100000
theorem ZgQ(n b0 b1 b2 b3:Nat)(h:128≤b0):128≤(Lib.decodeN n b0 b1 b2 b3).1:=by
 unfold Lib.decodeN;rw[if_neg (by omega)]
 split
 ·split
  ·assumption
  ·decide
 split
 ·split
  ·rename_i h;exact Nat.le_trans (by decide) h.1
  ·decide
 split
 ·split
  ·rename_i h;exact Nat.le_trans (by decide) h.1
  ·decide
 ·decide
theorem To(l:By)(i:Nat)(h:i<l.length):∃r w,Fu l i=(r,w)∧(l[i].toNat<128→r=l[i].toNat∧w=1)∧(128≤l[i].toNat→128≤r):=by
 have hg:((⟨l.toArray⟩:ByteArray).get! i).toNat=l[i].toNat:=by
  show(l.toArray[i]!).toNat=_
  rw[getElem!_pos l.toArray i (by simpa using h)]
  simp
 have e:∃n b1 b2 b3,Fu l i=Lib.decodeN n l[i].toNat b1 b2 b3:=by
  unfold Fu;rw[Lib.decode_at,hg];exact⟨_,_,_,_,rfl⟩
 obtain⟨n,b1,b2,b3,e⟩:=e;refine⟨(Fu l i).1,(Fu l i).2,rfl,fun hb=>?_,fun hb=>?_⟩
 ·rw[e]
  unfold Lib.decodeN;rw[if_pos hb];exact⟨rfl,rfl⟩
 ·rw[e]
  exact ZgQ _ _ _ _ _ hb
theorem L9(n:Int):AC prog 246 [.it .i32 n] [] (.bo (decide (48≤n)&&decide (n≤57))) []:=by
 refine Ar [] [] func246 ?_;by_cases h:48≤n
 ·rw[decide_eq_true h]
  refine run ?_;exact Ad
 ·rw[decide_eq_false h]
  refine run ?_;exact Ad
theorem Qw(s:By)(hs:s.length≤140737488355328):AC prog 155 [.st s] [] (.bo (Bw s)) []:=by
 refine Ar [246] [] func155 ?_;unfold Bw;by_cases hl:s.length=16
 rotate_left
 ·rw[decide_eq_false hl]
  refine run ?_;exact Ad
 rw[decide_eq_true hl];refine run ?_;refine AN (fun m e S=>e 0=.st s∧e 9=.ptr 0 0 ∧ ∃k:Nat,S=[.siter s k]∧k≤s.length∧(s.take k).all FX=true∧m=s.length-k) s.length ⟨Aa,Aa,0,rfl,by omega,rfl,rfl⟩ ?_
 rintro m e S ⟨s0,s9,k,rfl,hk,hall,rfl⟩
 by_cases hlt:k<s.length
 rotate_left
 ·obtain rfl:k=s.length:=by omega
  rw[List.take_length]at hall;rw[hall];refine Ab (A3 @s0 @s9 @hlt) ?_;exact Ad
 obtain⟨r,w,hr,h1,h2⟩:=To s k hlt;have hx:FX s[k]=true↔(48≤r∧r≤57)∨(97≤r∧r≤102):=by
  unfold FX;simp only[Bool.or_eq_true,Bool.and_eq_true,decide_eq_true_eq];by_cases h:s[k].toNat<128
  ·rw[(h1 h).1]
  ·have :=h2 (by omega);omega
 have hstep:s.take (k+1)=s.take k++[s[k]]:=List.take_succ_eq_append_getElem hlt;have hbad:FX s[k]=false→s.all FX=false:=fun h=>List.all_eq_false.2 ⟨s[k],List.getElem_mem hlt,by simp[h]⟩
 have hgood:FX s[k]=true→w=1:=fun h=>by
  refine(h1 ?_).2
  refine Nat.lt_of_not_le fun h'=>?_
  have :=h2 h';have :=hx.1 h;omega
 generalize s[k]=b at *;clear h1 h2;cases hb:FX b with
 | true=>
  obtain rfl:=hgood hb;have hc:=hx.1 hb;refine Ab (A4 @s0 @s9 @hlt @hr) ?_;refine cp (L9 r) ?_;rcases hc with⟨c1,c2⟩|⟨c1,c2⟩
  iterate 2
   ·refine Ab (an @s0 @s9) ?_
    exact Aj (s.length-(k+1)) (by omega) ⟨Aa,Aa,k+1,rfl,by omega,by rw[hstep,List.all_append,hall];simp[hb],rfl⟩
 | false=>
  rw[hbad hb];have hc:¬((48≤r∧r≤57)∨(97≤r∧r≤102)):=fun h=>by rw[hx.2 h]at hb;cases hb
  clear hbad hgood hx;refine Ab (A4 @s0 @s9 @hlt @hr) ?_;refine cp (L9 r) ?_;by_cases c1:r<48
  ·refine Ab (an @s0 @s9) ?_
   exact Ad
  by_cases c2:r<97
  ·refine Ab (an @s0 @s9) ?_
   exact Ad
  ·refine Ab (an @s0 @s9) ?_
   exact Ad
theorem UF{s:By}{k:Nat}(hk:k<s.length)(h:(if k=0 then C0 s[k]else Do s[k])=false):Cd s=false:=by
 cases s with
 |nil=>rfl
 | cons c r=>
  show(decide (r.length≤23)&&C0 c&&r.all Do)=false
  cases k with
  |zero=>simp at h;simp[h]
  |succ k=>
   simp only[List.getElem_cons_succ,Nat.add_one_ne_zero,if_false]at h
   have:r.all Do=false:=List.all_eq_false.2 ⟨_,List.getElem_mem (by simpa using hk),by rw[h];simp⟩
   rw[this];simp
theorem UD{s:By}(h0:0<s.length)(hl:s.length≤24)(h:∀j (hj:j<s.length),(if j=0 then C0 s[j]else Do s[j])=true):Cd s=true:=by
 cases s with
 |nil=>simp at h0
 | cons c r=>
  show(decide (r.length≤23)&&C0 c&&r.all Do)=true
  have h1:=h 0 (by simp)
  simp only[List.getElem_cons_zero,if_true]at h1;have h2:r.all Do=true:=List.all_eq_true.2 fun x hx=>by
   obtain⟨j,hj,rfl⟩:=List.getElem_of_mem hx;have :=h (j+1) (by simp;omega)
   simpa using this
  simp only[List.length_cons]at hl;rw[h1,h2,decide_eq_true (by omega)]
  rfl
theorem UE{s:By}(h:24<s.length):Cd s=false:=by
 cases s with
 |nil=>rfl
 |cons c r=>
  simp only[List.length_cons]at h;show(decide (r.length≤23)&&C0 c&&r.all Do)=false
  rw[decide_eq_false (by omega)]
  rfl
set_option maxHeartbeats 1600000 in
theorem NY(s:By)(hs:s.length≤140737488355328):AC prog 255 [.st s] [] (.bo (Cd s)) []:=by
 refine Ar [246] [] func255 ?_;by_cases h0:s=[]
 ·subst h0
  rw[show Cd []=false from rfl]
  refine run ?_;exact Ad
 have hne:(s==[])=false:=by simpa using h0
 have hpos:0<s.length:=List.length_pos_iff.2 h0;by_cases hl:24<s.length
 ·rw[UE hl]
  refine Ab @hne ?_;exact Ad
 refine Ab @hne ?_;refine AN (fun m e S=>e 0=.st s∧e 14=.ptr 0 0 ∧ ∃k:Nat,S=[.siter s k]∧k≤s.length∧(∀j (hj:j<s.length),j<k→(if j=0 then C0 s[j]else Do s[j])=true)∧m=s.length-k) s.length ⟨Aa,Aa,0,rfl,by omega,fun j _ h=>absurd h (Nat.not_lt_zero _),rfl⟩ ?_
 rintro m e S ⟨s0,s14,k,rfl,hk,hall,rfl⟩
 by_cases hlt:k<s.length
 rotate_left
 ·rw[UD hpos (by omega) fun j hj=>hall j hj (by omega)]
  refine Ab (A3 @s0 @s14 @hlt) ?_;exact Ad
 obtain⟨r,w,hr,h1,h2⟩:=To s k hlt;have hx:(if k=0 then C0 s[k]else Do s[k])=true↔(97≤r∧r≤122)∨(k≠0∧((48≤r∧r≤57)∨r=95)):=by
  have h3:s[k].toNat=r∨(128≤s[k].toNat∧128≤r):=by
   by_cases h:s[k].toNat<128
   ·exact .inl (h1 h).1.symm
   ·exact .inr ⟨by omega,h2 (by omega)⟩
  split
  ·rename_i hk0
   simp only[C0,Bool.and_eq_true,decide_eq_true_eq];omega
  ·rename_i hk0
   simp only[Do,C0,Bool.or_eq_true,Bool.and_eq_true,decide_eq_true_eq];omega
 have hbad:=fun h=>UF (s:=s) (k:=k) hlt h
 have hgood:(if k=0 then C0 s[k]else Do s[k])=true→w=1:=fun h=>by
  refine(h1 ?_).2
  refine Nat.lt_of_not_le fun h'=>?_
  have :=h2 h';have :=hx.1 h;omega
 have hnext:(if k=0 then C0 s[k]else Do s[k])=true → ∀j (hj:j<s.length),j<k+1→(if j=0 then C0 s[j]else Do s[j])=true:=fun h j hj hjk=>by
  by_cases e:j=k
  ·subst e;exact h
  ·exact hall j hj (by omega)
 generalize (if k=0 then C0 s[k]else Do s[k])=b at *
 clear h1 h2;cases b with
 | true=>
  obtain rfl:=hgood rfl;have hc:=hx.1 rfl;have hn:=hnext rfl;clear hbad hgood hx hnext;rcases hc with c1|⟨c0,c1⟩
  ·refine Ab (A4 @s0 @s14 @hlt @hr) ?_
   exact Aj (s.length-(k+1)) (by omega) ⟨Aa,Aa,k+1,rfl,by omega,hn,rfl⟩
  ·have c00:¬((k:Int)=0):=by omega
   by_cases cl:r<97
   focus
    refine Ab (A4 @s0 @s14 @hlt @hr) ?_;refine cp (L9 r) ?_;rcases c1 with c1|c1
    ·refine Ab (an @s0 @s14) ?_
     exact Aj (s.length-(k+1)) (by omega) ⟨Aa,Aa,k+1,rfl,by omega,hn,rfl⟩
    ·subst c1
     refine Ab (an @s0 @s14) ?_;exact Aj (s.length-(k+1)) (by omega) ⟨Aa,Aa,k+1,rfl,by omega,hn,rfl⟩
   exact absurd c1 (by omega)
 | false=>
  rw[hbad rfl];have hc:¬((97≤r∧r≤122)∨(k≠0∧((48≤r∧r≤57)∨r=95))):=fun h=>by have :=hx.2 h;cases this
  clear hbad hgood hx hnext hall;by_cases hk0:k=0
  ·subst hk0
   by_cases c1:r<97
   iterate 2
    ·refine Ab (A4 @s0 @s14 @hlt @hr) ?_
     exact Ad
  by_cases c1:r<97
  focus
   refine Ab (A4 @s0 @s14 @hlt @hr) ?_;refine cp (L9 r) ?_;by_cases c2:r<48
   ·refine Ab (an @s0 @s14) ?_
    exact Ad
   ·refine Ab (an @s0 @s14) ?_
    exact Ad
  focus
   refine Ab (A4 @s0 @s14 @hlt @hr) ?_;refine cp (L9 r) ?_;refine Ab (an @s0 @s14) ?_;exact Ad
theorem Rn:∀{l:List By},(∀j (h:j+1<l.length),(Op.bytesLess l[j+1] l[j]||l[j+1]==l[j])=false)→Jz l=true
 |[],_=>rfl
 |[_],_=>rfl
 | a::b::r,h=>by
  unfold Jz;have h0:=h 0 (by simp)
  simp only[List.getElem_cons_succ,List.getElem_cons_zero]at h0;rw[h0,Rn fun j hj=>by
   have :=h (j+1) (by simp at hj ⊢;omega)
   simpa using this]
  rfl
theorem Ro:∀{l:List By} {j:Nat} (h:j+1<l.length),(Op.bytesLess l[j+1] l[j]||l[j+1]==l[j])=true→Jz l=false
 |[],_,h,_=>by simp at h
 |[_],_,h,_=>by simp at h
 |a::b::r,0,_,h=>by
  simp only[List.getElem_cons_succ,List.getElem_cons_zero]at h;unfold Jz;rw[h];rfl
 |a::b::r,j+1,hj,h=>by
  unfold Jz;rw[Ro (l:=b::r) (j:=j) (by simp at hj ⊢;omega) (by simpa using h)]
  simp
set_option maxHeartbeats 1600000 in
theorem Od(l:List By)(hs:∀s∈l,s.length≤140737488355328)(hl:l.length≤140737488355328):AC prog 258 [Av l] [] (.bo (CJ l)) []:=by
 refine Ar [155] [] func258 ?_;unfold CJ;by_cases h64:l.length≤64
 rotate_left
 ·rw[decide_eq_false h64]
  refine run ?_;exact Ad
 rw[decide_eq_true h64];refine run ?_;refine AN (fun m e S=>S=[]∧e 0=Av l∧e 8=Av l∧e 9=.it .i64 (l.length:Int) ∧ ∃k:Nat,e 10=.it .i64 (k:Int)∧k≤l.length∧(∀j (h:j<l.length),j<k→Bw l[j]=true) ∧
  (∀j (h:j+1<l.length),j+1<k→(Op.bytesLess l[j+1] l[j]||l[j+1]==l[j])=false)∧m=l.length-k) l.length ⟨rfl,Aa,Aa,Aa,0,Aa,by omega,fun j _ h=>absurd h (Nat.not_lt_zero _),fun j _ h=>absurd h (Nat.not_lt_zero _),rfl⟩ ?_
 rintro m e S ⟨rfl,s0,s8,s9,k,s10,hk,hid,hasc,rfl⟩
 by_cases hlt:k<l.length
 rotate_left
 ·obtain rfl:k=l.length:=by omega
  have h1:l.all Bw=true:=List.all_eq_true.2 fun x hx=>by
   obtain⟨j,hj,rfl⟩:=List.getElem_of_mem hx;exact hid j hj hj
  rw[h1,Rn fun j h=>hasc j h h]
  refine Ab (A4 @s0 @s8 @s9 @s10) ?_;exact Ad
 have hg:l[k]? = some l[k]:=List.getElem?_eq_getElem hlt
 have hsk:=hs l[k] (List.getElem_mem hlt);refine Ab (A5 @s0 @s8 @s9 @s10 @hg) ?_;refine cp (Qw l[k] hsk) ?_;cases hb:Bw l[k]with
 |false=>
  have:l.all Bw=false:=List.all_eq_false.2 ⟨l[k],List.getElem_mem hlt,by simp[hb]⟩
  rw[this];refine Ab (A4 @s0 @s8 @s9 @s10) ?_;exact Ad
 | true=>
  have hid':∀j (h:j<l.length),j<k+1→Bw l[j]=true:=fun j h hj=>by
   by_cases e:j=k
   ·subst e;exact hb
   ·exact hid j h (by omega)
  cases k with
  |zero=>
   refine Ab (A5 @s0 @s8 @s9 @s10 @hg) ?_;exact Aj (l.length-1) (by omega) ⟨rfl,Aa,Aa,Aa,1,Aa,by omega,hid',fun j _ h=>by omega,rfl⟩
  | succ k=>
   have hg':l[k]? = some l[k]:=List.getElem?_eq_getElem (by omega)
   have hc:((k+1:Nat):Int)-1=(k:Int):=by omega
   have hpos:(0:Int)<((k+1:Nat):Int):=by omega
   cases hcmp:(Op.bytesLess l[k+1] l[k]||l[k+1]==l[k])with
   |true=>
    rw[Ro (j:=k) hlt hcmp,Bool.and_false];refine Ab (A8 @s0 @s8 @s9 @s10 @hg @hg' @hc @hcmp) ?_;exact Ad
   | false=>
    refine Ab (A8 @s0 @s8 @s9 @s10 @hg @hg' @hc @hcmp) ?_;exact Aj (l.length-(k+1+1)) (by omega) ⟨rfl,Aa,Aa,Aa,k+1+1,Aa,by omega,hid',fun j h hj=>by
     by_cases e:j=k
     ·subst e;exact hcmp
     ·exact hasc j h (by omega),rfl⟩
end Pe
end
section
namespace Pe
open Tryz
open Go
variable [Tab]
set_option maxRecDepth 100000
def B5(n:Nat):Nat:=if n=0 then 0 else Nat.log2 n+1
theorem Jw{n s:Nat}(h:2^s≤n):B5 n=B5 (n / 2^s)+s:=by
 have hp:0<2^s:=Nat.pow_pos (by omega)
 have h1:0<n / 2^s:=Nat.div_pos h hp;unfold B5;rw[if_neg (by omega),if_neg (by omega)]
 have e:Nat.log2 n=Nat.log2 (n / 2^s)+s:=by
  have h2:=(Nat.log2_eq_iff (n:=n / 2^s) (k:=Nat.log2 (n / 2^s)) (by omega)).1 rfl
  refine(Nat.log2_eq_iff (by omega)).2 ⟨?_,?_⟩
  ·rw[Nat.pow_add]
   exact(Nat.le_div_iff_mul_le hp).1 h2.1
  ·rw[show Nat.log2 (n / 2^s)+s+1=(Nat.log2 (n / 2^s)+1)+s from by omega,Nat.pow_add]
   exact(Nat.div_lt_iff_lt_mul hp).1 h2.2
 omega
theorem Ea(n:Nat)(b:Int)(s:Nat)(h:b=(s:Int))(h':s≤64):El .u64 (n:Int) b=some (.it .u64 ((n / 2^s:Nat):Int)):=by
 subst h;unfold El;rw[if_pos (by omega)]
 congr 2
 rw[Int.toNat_natCast,show min s IntKind.u64.bits=s from Nat.min_eq_left h']
 rw[Int.fdiv_eq_ediv_of_nonneg _ (by exact Int.le_of_lt (Int.pow_pos (by omega)))]
 norm_cast
theorem HY(x:Nat)(h:x<256):IntKind.u8.wrap (x:Int)=(x:Int):=by
 rw[O3];simp;omega
theorem Ip(x:Nat):B5 x≤x+1:=by
 unfold B5;split
 ·omega
 ·have :=Nat.log2_lt (n:=x) (k:=x) (by assumption)
  have :=this.2 Nat.lt_two_pow_self;omega
theorem H2(L:List UInt8)(hL:∀x,x<256→L[x]? = some (UInt8.ofNat (B5 x)))(x:Nat)(h:x<256):(if 0≤(x:Int)then Option.map u8 L[x]? else none)=some (.it .u8 (B5 x:Int)):=by
 rw[if_pos (by omega),hL x h]
 have:B5 x<256:=by
  have:B5 x≤8:=by
   unfold B5;split
   ·omega
   ·have :=(Nat.log2_lt (n:=x) (k:=8) (by assumption)).2 (by omega)
    omega
  omega
 simp only[u8,Option.map_some];congr 2
 simp;omega
set_option maxHeartbeats 2000000 in
theorem U0(n:Nat)(h:n<18446744073709551616):AC prog 106 [.it .u64 n] [] (.it .i64 (B5 n)) []:=by
 have s8:∀n:Nat,El .u64 (n:Int) 8=some (.it .u64 ((n / 2^8:Nat):Int)):=fun n=>Ea n 8 8 rfl (by omega)
 have s16:∀n:Nat,El .u64 (n:Int) 16=some (.it .u64 ((n / 2^16:Nat):Int)):=fun n=>Ea n 16 16 rfl (by omega)
 have s32:∀n:Nat,El .u64 (n:Int) 32=some (.it .u64 ((n / 2^32:Nat):Int)):=fun n=>Ea n 32 32 rfl (by omega)
 refine Ar [] [] func106 ?_;refine run ?_;refine Jj (fun h1=>?_) (fun h1=>?_)
 ·have l32:4294967296≤n:=by have :=of_decide_eq_true h1;omega
  have e32:=Jw (n:=n) (s:=32) l32;have m32:n / 2^32<4294967296:=by omega
  refine Ab (A3 @s32 @s16 @s8) ?_;generalize n / 2^32=x at *;refine Jj (fun h1=>?_) (fun h1=>?_)
  ·have l16:65536≤x:=by have :=of_decide_eq_true h1;omega
   have e16:=Jw (n:=x) (s:=16) l16;have m16:x / 2^16<65536:=by omega
   refine Ab (A3 @s32 @s16 @s8) ?_;generalize x / 2^16=y at *;refine Jj (fun h1=>?_) (fun h1=>?_)
   ·have l8:256≤y:=by have :=of_decide_eq_true h1;omega
    have e8:=Jw (n:=y) (s:=8) l8;have m8:y / 2^8<256:=by omega
    refine Ab (A3 @s32 @s16 @s8) ?_;generalize y / 2^8=z at *;have t1:=HY z (by omega)
    have t3:=Ip z;refine Ab @t1 ?_;refine Iq _ (H2 _ (by decide +kernel) z (by omega)) ?_
    refine Ab @Int.zero_add ?_;refine Hu (by rfl) (by rfl) ?_
    exact congrArg (AV.it .i64) (by omega)
   ·have l8:y<256:=by have :=of_decide_eq_false h1;omega
    refine run ?_;have t1:=HY y (by omega)
    have t3:=Ip y;refine Ab @t1 ?_;refine Iq _ (H2 _ (by decide +kernel) y (by omega)) ?_
    refine Ab @Int.zero_add ?_;refine Hu (by rfl) (by rfl) ?_
    exact congrArg (AV.it .i64) (by omega)
  ·have l16:x<65536:=by have :=of_decide_eq_false h1;omega
   refine run ?_;refine Jj (fun h1=>?_) (fun h1=>?_)
   ·have l8:256≤x:=by have :=of_decide_eq_true h1;omega
    have e8:=Jw (n:=x) (s:=8) l8;have m8:x / 2^8<256:=by omega
    refine Ab (A3 @s32 @s16 @s8) ?_;generalize x / 2^8=z at *;have t1:=HY z (by omega)
    have t3:=Ip z;refine Ab @t1 ?_;refine Iq _ (H2 _ (by decide +kernel) z (by omega)) ?_
    refine Ab @Int.zero_add ?_;refine Hu (by rfl) (by rfl) ?_
    exact congrArg (AV.it .i64) (by omega)
   ·have l8:x<256:=by have :=of_decide_eq_false h1;omega
    refine run ?_;have t1:=HY x (by omega)
    have t3:=Ip x;refine Ab @t1 ?_;refine Iq _ (H2 _ (by decide +kernel) x (by omega)) ?_
    refine Ab @Int.zero_add ?_;refine Hu (by rfl) (by rfl) ?_
    exact congrArg (AV.it .i64) (by omega)
 ·have l32:n<4294967296:=by have :=of_decide_eq_false h1;omega
  refine run ?_;refine Jj (fun h1=>?_) (fun h1=>?_)
  ·have l16:65536≤n:=by have :=of_decide_eq_true h1;omega
   have e16:=Jw (n:=n) (s:=16) l16;have m16:n / 2^16<65536:=by omega
   refine Ab (A3 @s32 @s16 @s8) ?_;generalize n / 2^16=y at *;refine Jj (fun h1=>?_) (fun h1=>?_)
   ·have l8:256≤y:=by have :=of_decide_eq_true h1;omega
    have e8:=Jw (n:=y) (s:=8) l8;have m8:y / 2^8<256:=by omega
    refine Ab (A3 @s32 @s16 @s8) ?_;generalize y / 2^8=z at *;have t1:=HY z (by omega)
    have t3:=Ip z;refine Ab @t1 ?_;refine Iq _ (H2 _ (by decide +kernel) z (by omega)) ?_
    refine Ab @Int.zero_add ?_;refine Hu (by rfl) (by rfl) ?_
    exact congrArg (AV.it .i64) (by omega)
   ·have l8:y<256:=by have :=of_decide_eq_false h1;omega
    refine run ?_;have t1:=HY y (by omega)
    have t3:=Ip y;refine Ab @t1 ?_;refine Iq _ (H2 _ (by decide +kernel) y (by omega)) ?_
    refine Ab @Int.zero_add ?_;refine Hu (by rfl) (by rfl) ?_
    exact congrArg (AV.it .i64) (by omega)
  ·have l16:n<65536:=by have :=of_decide_eq_false h1;omega
   refine run ?_;refine Jj (fun h1=>?_) (fun h1=>?_)
   ·have l8:256≤n:=by have :=of_decide_eq_true h1;omega
    have e8:=Jw (n:=n) (s:=8) l8;have m8:n / 2^8<256:=by omega
    refine Ab (A3 @s32 @s16 @s8) ?_;generalize n / 2^8=z at *;have t1:=HY z (by omega)
    have t3:=Ip z;refine Ab @t1 ?_;refine Iq _ (H2 _ (by decide +kernel) z (by omega)) ?_
    refine Ab @Int.zero_add ?_;refine Hu (by rfl) (by rfl) ?_
    exact congrArg (AV.it .i64) (by omega)
   ·have l8:n<256:=by have :=of_decide_eq_false h1;omega
    refine run ?_;have t1:=HY n (by omega)
    have t3:=Ip n;refine Ab @t1 ?_;refine Iq _ (H2 _ (by decide +kernel) n (by omega)) ?_
    refine Ab @Int.zero_add ?_;refine Hu (by rfl) (by rfl) ?_
    exact congrArg (AV.it .i64) (by omega)
end Pe
end
end Go.Proofs.YtipfggegddlgdaaGreatDoor
