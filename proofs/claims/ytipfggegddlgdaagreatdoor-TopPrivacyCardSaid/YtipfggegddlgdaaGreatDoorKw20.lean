import Derived.Test.YtipfggegddlgdaaGreatDoorKw19
set_option linter.unusedSectionVars false
set_option linter.unusedVariables false
set_option linter.unusedSimpArgs false
namespace Go.Proofs.YtipfggegddlgdaaGreatDoor
section
namespace Pe
open Tryz
open Go Go.RowKit Co Sg Ac
set_option maxRecDepth 100000
set_option maxHeartbeats 4000000
theorem ZcU(n:Int):pub n=(decide (1≤n)&&decide (n<2305843009213693951)):=by
 unfold pub wi;rw[show decide (n≤2305843009213693950)=decide (n<2305843009213693951) by rw[Bool.eq_iff_iff];simp only[decide_eq_true_eq];omega]
theorem Mi(n:Int):AC prog 213 [.it .i64 n] [] (.bo (pub n)) []:=by
 refine Ah [] [] func213 ?_;rw[ZcU];by_cases h:1≤n
 ·rw[decide_eq_true h]
  refine run ?_;exact Ad
 ·rw[decide_eq_false h]
  refine run ?_;exact Ad
theorem QR(b:Box):AC prog 294 [Kx b] [] (.bo (EG b)) []:=by
 refine Ah [] [] func294 ?_;unfold EG;rw[J1];by_cases h1:b.nonce.length=32
 ·rw[decide_eq_true h1]
  by_cases h2:b.tag.length=16
  ·rw[decide_eq_true h2]
   refine run ?_;exact Ad
  ·rw[decide_eq_false h2]
   refine run ?_;exact Ad
 ·rw[decide_eq_false h1]
  refine run ?_;exact Ad
theorem Wx(b:Box):AC prog 293 [Kx b] [] (.bo (decide (b=CR))) []:=by
 refine Ah [] [] func293 ?_;rw[Rc];cases h1:(b.nonce==[])with
 |false=>
  refine Ab @h1 ?_;exact Ad
 | true=>
  cases h2:(b.data==[])with
  |false=>
   refine Ab (an @h1 @h2) ?_;exact Ad
  |true=>
   refine Ab (an @h1 @h2) ?_;exact Ad
theorem VX(a:Ac.Act)(hw:a.wraps.length≤140737488355328):AC prog 219 [Am a] [] (.bo (Fp a)) []:=by
 refine Ah [213,294] [] func219 ?_;unfold Fp;have hsz:AK 5 (a.wraps.map Bj)=true:=BG 5 Bj (fun _=>rfl) _
 refine run ?_;refine AN (fun m e S=>e 1=.ptr 0 0 ∧ ∃(k:Nat) (T:Ae),e 3=.it .i64 (k:Int)∧S=.cells (JA a)::T∧k≤a.wraps.length∧(∀j (h:j<a.wraps.length),j<k→Cv a.wraps[j]=true)∧m=a.wraps.length-k) (a.wraps.length)
  ⟨Aa,0,[],Aa,rfl,by omega,fun j _ h=>absurd h (Nat.not_lt_zero _),rfl⟩ ?_
 rintro m e S ⟨s1,k,T,s3,rfl,hk,hall,rfl⟩
 by_cases hlt:k<a.wraps.length
 rotate_left
 ·obtain rfl:k=a.wraps.length:=by omega
  have h1:a.wraps.all Cv=true:=List.all_eq_true.2 fun x hx=>by
   obtain⟨j,hj,rfl⟩:=List.getElem_of_mem hx;exact hall j hj hj
  have h2:decide (a.wraps.length=a.to.length)=((a.wraps.length:Int)==(a.to.length:Int)):=by
   rw[Bool.eq_iff_iff];simp only[decide_eq_true_eq,beq_iff_eq];omega
  rw[h1,h2];have hx:¬((a.wraps.length:Nat):Int)<(a.wraps.length:Int):=by omega
  refine Ab (A3 @s1 @s3 @hx) ?_;exact Ad
 have hg:a.wraps[k]? = some a.wraps[k]:=List.getElem?_eq_getElem hlt
 have hbad:Cv a.wraps[k]=false→a.wraps.all Cv=false:=fun h=>List.all_eq_false.2 ⟨_,List.getElem_mem hlt,by simp[h]⟩
 have hnext:Cv a.wraps[k]=true → ∀j (h:j<a.wraps.length),j<k+1→Cv a.wraps[j]=true:=fun hb j h hj=>by
  by_cases e:j=k
  ·subst e;exact hb
  ·exact hall j h (by omega)
 generalize a.wraps[k]=x at *;have hT1:∀y:SObj,(T++[y])[T.length]? = some y:=fun y=>by simp
 have hT2:∀y z:SObj,(T++[y]).set T.length z=T++[z]:=fun y z=>by simp
 have hwx:Cv x=(pub x.to&&pub x.eph&&EG x.box):=rfl;rw[hwx]at hbad hnext;refine Ab (A6 @s1 @s3 @hg @hsz @hT1 @hT2) ?_;refine cp (Mi x.to) ?_;cases h1:pub x.to with
 |false=>
  rw[h1]at hbad;rw[hbad rfl];refine Ab (A4 @s1 @s3 @hT1 @hT2) ?_;exact Ad
 | true=>
  refine Ab (A4 @s1 @s3 @hT1 @hT2) ?_;refine cp (Mi x.eph) ?_;cases h2:pub x.eph with
  |false=>
   rw[h1,h2]at hbad;rw[hbad rfl];refine Ab (A4 @s1 @s3 @hT1 @hT2) ?_;exact Ad
  | true=>
   refine Ab (A4 @s1 @s3 @hT1 @hT2) ?_;refine cp (QR x.box) ?_;cases h3:EG x.box with
   |false=>
    rw[h1,h2,h3]at hbad;rw[hbad rfl];refine Ab (A4 @s1 @s3 @hT1 @hT2) ?_;exact Ad
   |true=>
    refine Ab (A4 @s1 @s3 @hT1 @hT2) ?_;exact Aj (a.wraps.length-(k+1)) (by omega) ⟨Aa,k+1,T++[.cells (Bj x).cells],Aa,rfl,by omega,hnext (by rw[h1,h2,h3];rfl),rfl⟩
def He(a:Ac.Act):Bool:=if a.scope=2 then Cd a.group else decide (a.group=[])
theorem Wv(a:Ac.Act)(h:a.group.length≤140737488355328):AC prog 218 [Am a] [] (.bo (He a)) []:=by
 refine Ah [214] [] func218 ?_;unfold He;have hn:=GJ;by_cases h2:a.scope=2
 ·rw[if_pos h2]
  refine run ?_;refine cp (Ij a.group h) ?_;refine run ?_;exact Ad
 ·rw[if_neg h2]
  refine Ab @hn ?_;exact Ad
def Rl(a:Ac.Act):Bool:=CJ a.to&&He a&&(if a.scope=0 then decide (a.epoch=0)&&Dg a.text&&decide (a.body=CR)
 else if a.scope=3 then wi a.epoch 0 1073741824&&decide (a.text=[])&&EG a.body
 else if a.scope=1∨a.scope=2 then wi a.epoch 0 1073741824&&decide (a.text=[])&&EG a.body&&decide (a.to=[])else false)
theorem ZhZ(a:Ac.Act):Rl a=Ey a:=by
 unfold Rl Ey He Ge;by_cases h0:a.scope=0
 ·simp only[h0,if_true,show ¬(0:Int)=2 by decide,if_false]
  rw[Bool.eq_iff_iff];simp only[Bool.and_eq_true];constructor<;>(intro h;simp only[h,and_self])
 by_cases h3:a.scope=3
 ·simp only[h3,show ¬(3:Int)=0 by decide,show ¬(3:Int)=2 by decide,if_false,if_true,or_true,decide_true,Bool.or_true,Bool.true_and]
  rw[Bool.eq_iff_iff];simp only[Bool.and_eq_true];constructor<;>(intro h;simp only[h,and_self])
 by_cases h1:a.scope=1
 ·simp only[h1,show ¬(1:Int)=0 by decide,show ¬(1:Int)=2 by decide,show ¬(1:Int)=3 by decide,if_false,if_true,true_or,decide_false,Bool.or_false]
  rw[Bool.eq_iff_iff];simp only[Bool.and_eq_true];constructor<;>(intro h;simp only[h,and_self])
 by_cases h2:a.scope=2
 ·simp only[h2,show ¬(2:Int)=0 by decide,show ¬(2:Int)=3 by decide,if_false,if_true,or_true,decide_false,Bool.or_false]
  rw[Bool.eq_iff_iff];simp only[Bool.and_eq_true];constructor<;>(intro h;simp only[h,and_self])
 ·simp only[if_neg h0,if_neg h2,if_neg h3,if_neg (show ¬(a.scope=1∨a.scope=2)from fun h=>h.elim h1 h2),if_neg (show ¬(a.scope=1∨a.scope=3)from fun h=>h.elim h1 h3),Bool.and_false,Bool.false_and]
theorem QS(a:Ac.Act)(h:Sz a):AC prog 215 [Am a] [] (.bo (Ey a)) []:=by
 rw[←ZhZ];refine Ah [217,218,293,294] [] func215 ?_;unfold Rl;have hn:=GJ;have hl:=Ki a.to;have hs:=J1 a.text;refine run ?_;refine cp (Ou a.to h.tos h.to) ?_;cases c1:CJ a.to with
 |false=>
  refine run ?_;exact Ad
 |true=>
 refine run ?_;refine cp (Wv a h.group) ?_;cases c2:He a with
 |false=>
  refine run ?_;exact Ad
 |true=>
 by_cases h0:a.scope=0
 ·rw[if_pos h0]
  by_cases e1:a.epoch=0
  rotate_left
  ·rw[decide_eq_false e1]
   refine run ?_;exact Ad
  rw[decide_eq_true e1,hs];cases e2:decide ((a.text.length:Int)≤500)with
  |false=>
   refine Ab @e2 ?_;exact Ad
  |true=>
  refine Ab @e2 ?_;refine cp (Wx a.body) ?_;refine run ?_;exact Ad
 rw[if_neg h0];by_cases h3:a.scope=3
 ·rw[if_pos h3]
  by_cases e1:0≤a.epoch
  rotate_left
  ·rw[show wi a.epoch 0 1073741824=false by unfold wi;rw[decide_eq_false e1];rfl]
   refine run ?_;exact Ad
  by_cases e2:a.epoch≤1073741824
  rotate_left
  ·rw[show wi a.epoch 0 1073741824=false by unfold wi;rw[decide_eq_false e2,Bool.and_false]]
   refine run ?_;exact Ad
  rw[show wi a.epoch 0 1073741824=true from Ch.2 ⟨e1,e2⟩]
  cases e3:decide (a.text=[])with
  |false=>
   refine Ab (an @hn @e3) ?_;exact Ad
  |true=>
  refine Ab (an @hn @e3) ?_;refine cp (QR a.body) ?_;refine run ?_;exact Ad
 rw[if_neg h3];by_cases h12:a.scope=1∨a.scope=2
 rotate_left
 ·rw[if_neg h12]
  have n1:¬a.scope=1:=fun h=>h12 (.inl h)
  have n2:¬a.scope=2:=fun h=>h12 (.inr h)
  refine run ?_;exact Ad
 rw[if_pos h12];rcases h12 with h12|h12
 iterate 2
  ·skip
   by_cases e1:0≤a.epoch
   rotate_left
   ·rw[show wi a.epoch 0 1073741824=false by unfold wi;rw[decide_eq_false e1];rfl]
    refine run ?_;exact Ad
   by_cases e2:a.epoch≤1073741824
   rotate_left
   ·rw[show wi a.epoch 0 1073741824=false by unfold wi;rw[decide_eq_false e2,Bool.and_false]]
    refine run ?_;exact Ad
   rw[show wi a.epoch 0 1073741824=true from Ch.2 ⟨e1,e2⟩]
   cases e3:decide (a.text=[])with
   |false=>
    refine Ab (an @hn @e3) ?_;exact Ad
   |true=>
   refine Ab (an @hn @e3) ?_;refine cp (QR a.body) ?_;cases e4:EG a.body with
   |false=>
    refine run ?_;exact Ad
   |true=>
   refine Ab @hl ?_;exact Ad
def Cu(a:Ac.Act):Ac.Act:={ a with scope:=0,group:=[],to:=[],text:=[],body:=CR,epoch:=0 }
theorem Il(a:Ac.Act):AC prog 216 [Am a] [] (Am (Cu a)) []:=by
 refine Ah [] [] func216 ?_;refine run ?_;exact Au
def BB(a:Ac.Act):Bool:=decide (a.object=[])&&decide (a.target=[])&&decide (a.scope=0)&&decide (a.group=[])&&decide (a.to=[])&&decide (a.text=[])&&decide (a.body=CR)&&decide (a.epoch=0)&&decide (a.wraps=[])&&decide (a.n=0)&&decide (a.m=0)
theorem DY(a:Ac.Act):AC prog 220 [Am a] [] (.bo (BB a)) []:=by
 refine Ah [293] [] func220 ?_;unfold BB;have hn:=GJ;have hl1:=Ki a.to;have hl2:=Ki a.wraps;cases c0:decide (a.object=[])with
 |false=>
  refine Ab (A4 @hn @hl1 @hl2 @c0) ?_;exact Ad
 |true=>
 cases c1:decide (a.target=[])with
 |false=>
  refine Ab (A5 @hn @hl1 @hl2 @c0 @c1) ?_;exact Ad
 |true=>
 by_cases p2:a.scope=0
 rotate_left
 ·rw[decide_eq_false p2]
  refine Ab (A5 @hn @hl1 @hl2 @c0 @c1) ?_;exact Ad
 rw[decide_eq_true p2];cases c3:decide (a.group=[])with
 |false=>
  refine Ab (A6 @hn @hl1 @hl2 @c0 @c1 @c3) ?_;exact Ad
 |true=>
 cases c4:decide (a.to=[])with
 |false=>
  refine Ab (A7 @hn @hl1 @hl2 @c0 @c1 @c3 @c4) ?_;exact Ad
 |true=>
 cases c5:decide (a.text=[])with
 |false=>
  refine Ab (A8 @hn @hl1 @hl2 @c0 @c1 @c3 @c4 @c5) ?_;exact Ad
 |true=>
 refine Ab (A8 @hn @hl1 @hl2 @c0 @c1 @c3 @c4 @c5) ?_;refine cp (Wx a.body) ?_;cases c6:decide (a.body=CR)with
 |false=>
  refine run ?_;exact Ad
 |true=>
 by_cases p7:a.epoch=0
 rotate_left
 ·rw[decide_eq_false p7]
  refine Ab (A8 @hn @hl1 @hl2 @c0 @c1 @c3 @c4 @c5) ?_;exact Ad
 rw[decide_eq_true p7];cases c8:decide (a.wraps=[])with
 |false=>
  refine Ab (A9 @hn @hl1 @hl2 @c0 @c1 @c3 @c4 @c5 @c8) ?_;exact Ad
 |true=>
 by_cases p9:a.n=0
 rotate_left
 ·rw[decide_eq_false p9]
  refine Ab (A9 @hn @hl1 @hl2 @c0 @c1 @c3 @c4 @c5 @c8) ?_;exact Ad
 rw[decide_eq_true p9];by_cases p10:a.m=0
 rotate_left
 ·rw[decide_eq_false p10]
  refine Ab (A9 @hn @hl1 @hl2 @c0 @c1 @c3 @c4 @c5 @c8) ?_;exact Ad
 rw[decide_eq_true p10];refine Ab (A9 @hn @hl1 @hl2 @c0 @c1 @c3 @c4 @c5 @c8) ?_;exact Ad
def Br(a:Ac.Act):Bool:=match FP a.kind with
 |none=>false
 |some r=>out a r&&r.ok a
theorem Zcn(a:Ac.Act):Ac.right a=(Bw a.author&&placed a&&wi a.time 0 1099511627776&&BQ a.sig&&Br a):=by
 unfold Ac.right Br;cases h:FP a.kind with
 |none=>rfl
 |some r=>
  have e:decide (Go.bits .andNot .i64 (IR a) r.mask=0)=out a r:=UQ r _ _ _ _ _ _ _ _ _ _ _;simp only[e]
theorem Eo(m:Int):wi m 0 19=(decide (0≤m)&&decide (m<20)):=by
 unfold wi;rw[show decide (m≤19)=decide (m<20) by rw[Bool.eq_iff_iff];simp only[decide_eq_true_eq];omega]
theorem Ep(a:Ac.Act):(decide (1≤a.scope)&&decide (a.scope≤3)&&He a)=Ge a.scope a.group:=by
 unfold He Ge;by_cases h2:a.scope=2
 ·rw[if_pos h2,if_pos h2,h2];rfl
 rw[if_neg h2,if_neg h2];by_cases h13:a.scope=1∨a.scope=3
 ·rw[if_pos h13,decide_eq_true (show 1≤a.scope by omega),decide_eq_true (show a.scope≤3 by omega)];rfl
 ·rw[if_neg h13]
  by_cases h1:1≤a.scope
  ·rw[decide_eq_false (show ¬a.scope≤3 by omega),Bool.and_false];rfl
  ·rw[decide_eq_false h1];rfl
theorem Ww(a:Ac.Act)(h:Sz a):AC prog 131 [Am a] [] (.bo (Br a)) []:=by
 refine Ah [213,214,215,216,130,217,218,219,220] [] func131 ?_;have hn:=GJ;by_cases hr:0≤a.kind∧a.kind≤23
 rotate_left
 ·have hv:Br a=false:=by
   unfold Br;rw[Zb4 (by omega)]
  rw[hv];refine run ?_;exact Ad
 have hks:a.kind=0∨a.kind=1∨a.kind=2∨a.kind=3∨a.kind=4∨a.kind=5∨a.kind=6∨a.kind=7∨a.kind=8∨a.kind=9∨a.kind=10∨a.kind=11∨a.kind=12∨a.kind=13∨a.kind=14∨a.kind=15∨a.kind=16∨a.kind=17∨a.kind=18∨a.kind=19∨a.kind=20∨a.kind=21∨a.kind=22∨a.kind=23:=by omega
 rcases hks with hk|hk|hk|hk|hk|hk|hk|hk|hk|hk|hk|hk|hk|hk|hk|hk|hk|hk|hk|hk|hk|hk|hk|hk
 ·have hv:Br a=(pub a.n&&decide (0≤a.m)&&decide (a.m<20)&&Cd a.text&&BB { a with text:=[],n:=0,m:=0 }):=by
   unfold Br;rw[hk];show(out a .begin&&Ru.ok a .begin)=_
   simp only[out,Dc,Ru.ok,home,Ac.grant,Ac.setup,←Ep,Eo,BB,Cu,decide_true,Bool.and_true,Bool.true_and];ac_rfl
  rw[hv];refine Ab @hn ?_;refine cp (Mi a.n) ?_;cases c0:pub a.n with
  |false=>
   refine Ab @hn ?_;refine cp (Ij a.text h.text) ?_;refine Ab @hn ?_;exact Ad
  |true=>
  by_cases p1:0≤a.m
  rotate_left
  ·rw[decide_eq_false p1]
   refine Ab @hn ?_;refine cp (Ij a.text h.text) ?_;refine Ab @hn ?_;exact Ad
  rw[decide_eq_true p1];by_cases p2:a.m<20
  rotate_left
  ·rw[decide_eq_false p2]
   refine Ab @hn ?_;refine cp (Ij a.text h.text) ?_;refine Ab @hn ?_;exact Ad
  rw[decide_eq_true p2];refine Ab @hn ?_;refine cp (Ij a.text h.text) ?_;cases c3:Cd a.text with
  |false=>
   refine Ab @hn ?_;exact Ad
  |true=>
  refine Ab @hn ?_;refine cp (DY { a with text:=[],n:=0,m:=0 }) ?_
  refine Ab @hn ?_;exact Ad
 ·have hv:Br a=(Ey a&&BB (Cu a)):=by
   unfold Br;rw[hk];show(out a .post&&Ru.ok a .post)=_
   simp only[out,Dc,Ru.ok,home,Ac.grant,Ac.setup,←Ep,Eo,wi,BB,Cu,decide_true,Bool.and_true,Bool.true_and];ac_rfl
  rw[hv];refine Ab @hn ?_;refine cp (QS a h) ?_;cases c0:Ey a with
  |false=>
   refine Ab @hn ?_;refine cp (Il a) ?_;refine Ab @hn ?_;exact Ad
  |true=>
  refine Ab @hn ?_;refine cp (Il a) ?_;refine Ab @hn ?_;refine cp (DY (Cu a)) ?_;refine Ab @hn ?_;exact Ad
 iterate 2
  ·have hv:Br a=(Ey a&&dig a.object&&BB { Cu a with object:=[] }):=by
    unfold Br;rw[hk];show(out a .reply&&Ru.ok a .reply)=_
    simp only[out,Dc,Ru.ok,home,Ac.grant,Ac.setup,←Ep,Eo,wi,BB,Cu,decide_true,Bool.and_true,Bool.true_and];ac_rfl
   rw[hv];refine Ab @hn ?_;refine cp (QS a h) ?_;cases c0:Ey a with
   |false=>
    refine Ab @hn ?_;refine cp (Il a) ?_;refine Ab @hn ?_;exact Ad
   |true=>
   rw[Gs];cases c1:((a.object.length:Int)==32)with
   |false=>
    refine Ab (an @hn @c1) ?_;refine cp (Il a) ?_;refine Ab (an @hn @c1) ?_;exact Ad
   |true=>
   refine Ab (an @hn @c1) ?_;refine cp (Il a) ?_;refine Ab (an @hn @c1) ?_;refine cp (DY { Cu a with object:=[] }) ?_
   refine Ab (an @hn @c1) ?_;exact Ad
 iterate 3
  ·have hv:Br a=(dig a.object&&BB { a with object:=[] }):=by
    unfold Br;rw[hk];show(out a .about&&Ru.ok a .about)=_
    simp only[out,Dc,Ru.ok,home,Ac.grant,Ac.setup,←Ep,Eo,wi,BB,Cu,decide_true,Bool.and_true,Bool.true_and];ac_rfl
   rw[hv];rw[Gs];cases c0:((a.object.length:Int)==32)with
   |false=>
    refine Ab (an @hn @c0) ?_;exact Ad
   |true=>
   refine Ab (an @hn @c0) ?_;refine cp (DY { a with object:=[] }) ?_
   refine Ab (an @hn @c0) ?_;exact Ad
 iterate 5
  ·have hv:Br a=(Bw a.target&&BB { a with target:=[] }):=by
    unfold Br;rw[hk];show(out a .tie&&Ru.ok a .tie)=_
    simp only[out,Dc,Ru.ok,home,Ac.grant,Ac.setup,←Ep,Eo,wi,BB,Cu,decide_true,Bool.and_true,Bool.true_and];ac_rfl
   rw[hv];refine Ab @hn ?_;refine cp (Kq a.target h.target) ?_;cases c0:Bw a.target with
   |false=>
    refine Ab @hn ?_;exact Ad
   |true=>
   refine Ab @hn ?_;refine cp (DY { a with target:=[] }) ?_
   refine Ab @hn ?_;exact Ad
 ·have hv:Br a=(dig a.object&&Dg a.text&&BB { a with object:=[],text:=[] }):=by
   unfold Br;rw[hk];show(out a .reason&&Ru.ok a .reason)=_
   simp only[out,Dc,Ru.ok,home,Ac.grant,Ac.setup,←Ep,Eo,wi,BB,Cu,decide_true,Bool.and_true,Bool.true_and];ac_rfl
  rw[hv];rw[Gs];cases c0:((a.object.length:Int)==32)with
  |false=>
   refine Ab (an @hn @c0) ?_;exact Ad
  |true=>
  rw[J1];cases c1:decide ((a.text.length:Int)≤500)with
  |false=>
   refine Ab (A3 @hn @c0 @c1) ?_;exact Ad
  |true=>
  refine Ab (A3 @hn @c0 @c1) ?_;refine cp (DY { a with object:=[],text:=[] }) ?_
  refine Ab (A3 @hn @c0 @c1) ?_;exact Ad
 ·have hv:Br a=(dig a.object&&BB { a with object:=[] }):=by
   unfold Br;rw[hk];show(out a .about&&Ru.ok a .about)=_
   simp only[out,Dc,Ru.ok,home,Ac.grant,Ac.setup,←Ep,Eo,wi,BB,Cu,decide_true,Bool.and_true,Bool.true_and];ac_rfl
  rw[hv];rw[Gs];cases c0:((a.object.length:Int)==32)with
  |false=>
   refine Ab (an @hn @c0) ?_;exact Ad
  |true=>
  refine Ab (an @hn @c0) ?_;refine cp (DY { a with object:=[] }) ?_
  refine Ab (an @hn @c0) ?_;exact Ad
 ·have hv:Br a=(Ey a&&dig a.object&&BB { Cu a with object:=[] }):=by
   unfold Br;rw[hk];show(out a .reply&&Ru.ok a .reply)=_
   simp only[out,Dc,Ru.ok,home,Ac.grant,Ac.setup,←Ep,Eo,wi,BB,Cu,decide_true,Bool.and_true,Bool.true_and];ac_rfl
  rw[hv];refine Ab @hn ?_;refine cp (QS a h) ?_;cases c0:Ey a with
  |false=>
   refine Ab @hn ?_;refine cp (Il a) ?_;refine Ab @hn ?_;exact Ad
  |true=>
  rw[Gs];cases c1:((a.object.length:Int)==32)with
  |false=>
   refine Ab (an @hn @c1) ?_;refine cp (Il a) ?_;refine Ab (an @hn @c1) ?_;exact Ad
  |true=>
  refine Ab (an @hn @c1) ?_;refine cp (Il a) ?_;refine Ab (an @hn @c1) ?_;refine cp (DY { Cu a with object:=[] }) ?_
  refine Ab (an @hn @c1) ?_;exact Ad
 ·have hv:Br a=(CJ a.to&&Cd a.group&&BB { a with group:=[],to:=[] }):=by
   unfold Br;rw[hk];show(out a .circle&&Ru.ok a .circle)=_
   simp only[out,Dc,Ru.ok,home,Ac.grant,Ac.setup,←Ep,Eo,wi,BB,Cu,decide_true,Bool.and_true,Bool.true_and];ac_rfl
  rw[hv];refine Ab @hn ?_;refine cp (Ou a.to h.tos h.to) ?_;cases c0:CJ a.to with
  |false=>
   refine Ab @hn ?_;exact Ad
  |true=>
  refine Ab @hn ?_;refine cp (Ij a.group h.group) ?_;cases c1:Cd a.group with
  |false=>
   refine Ab @hn ?_;exact Ad
  |true=>
  refine Ab @hn ?_;refine cp (DY { a with group:=[],to:=[] }) ?_
  refine Ab @hn ?_;exact Ad
 ·have hv:Br a=(CJ a.to&&decide (1≤a.scope)&&decide (a.scope≤3)&&He a&&decide (0≤a.epoch)&&decide (a.epoch≤1073741824)&&Fp a&&BB { a with scope:=0,group:=[],to:=[],epoch:=0,wraps:=[] }):=by
   unfold Br;rw[hk];show(out a .grant&&Ru.ok a .grant)=_
   simp only[out,Dc,Ru.ok,home,Ac.grant,Ac.setup,←Ep,Eo,wi,BB,Cu,decide_true,Bool.and_true,Bool.true_and];ac_rfl
  rw[hv];refine Ab @hn ?_;refine cp (Ou a.to h.tos h.to) ?_;cases c0:CJ a.to with
  |false=>
   refine Ab @hn ?_;exact Ad
  |true=>
  by_cases p1:1≤a.scope
  rotate_left
  ·rw[decide_eq_false p1]
   refine Ab @hn ?_;exact Ad
  rw[decide_eq_true p1];by_cases p2:a.scope≤3
  rotate_left
  ·rw[decide_eq_false p2]
   refine Ab @hn ?_;exact Ad
  rw[decide_eq_true p2];refine Ab @hn ?_;refine cp (Wv a h.group) ?_;cases c3:He a with
  |false=>
   refine Ab @hn ?_;exact Ad
  |true=>
  by_cases p4:0≤a.epoch
  rotate_left
  ·rw[decide_eq_false p4]
   refine Ab @hn ?_;exact Ad
  rw[decide_eq_true p4];by_cases p5:a.epoch≤1073741824
  rotate_left
  ·rw[decide_eq_false p5]
   refine Ab @hn ?_;exact Ad
  rw[decide_eq_true p5];refine Ab @hn ?_;refine cp (VX a h.wraps) ?_;cases c6:Fp a with
  |false=>
   refine Ab @hn ?_;exact Ad
  |true=>
  refine Ab @hn ?_;refine cp (DY { a with scope:=0,group:=[],to:=[],epoch:=0,wraps:=[] }) ?_
  refine Ab @hn ?_;exact Ad
 ·by_cases ho:a.object=[]
  ·have hv:Br a=(Cd a.text&&Bw a.target&&BB { a with text:=[],object:=[],target:=[] }):=by
    unfold Br;rw[hk];show(out a .label&&Ru.ok a .label)=_
    have hd:dig a.object=false:=by unfold dig;rw[ho];rfl
    simp only[out,Dc,Ru.ok,Ac.label,hd,ho,Bool.false_and,Bool.false_or,BB,Cu,decide_true,Bool.and_true,Bool.true_and];ac_rfl
   rw[hv];have hob:(a.object==[])=true:=by rw[ho];rfl
   refine Ab (an @hn @hob) ?_;refine cp (Ij a.text h.text) ?_;cases c0:Cd a.text with
   |false=>
    refine Ab (an @hn @hob) ?_;refine cp (Kq a.target h.target) ?_;refine Ab (an @hn @hob) ?_;exact Ad
   |true=>
   refine Ab (an @hn @hob) ?_;refine cp (Kq a.target h.target) ?_;cases c1:Bw a.target with
   |false=>
    refine Ab (an @hn @hob) ?_;exact Ad
   |true=>
   refine Ab (an @hn @hob) ?_;refine cp (DY { a with text:=[],object:=[],target:=[] }) ?_
   refine Ab (an @hn @hob) ?_;exact Ad
  ·have hv:Br a=(Cd a.text&&dig a.object&&decide (a.target=[])&&BB { a with text:=[],object:=[],target:=[] }):=by
    unfold Br;rw[hk];show(out a .label&&Ru.ok a .label)=_
    simp only[out,Dc,Ru.ok,Ac.label,decide_eq_false ho,Bool.and_false,Bool.or_false,BB,Cu,decide_true,Bool.and_true,Bool.true_and];ac_rfl
   rw[hv];have hob:(a.object==[])=false:=by simpa using ho
   refine Ab (an @hn @hob) ?_;refine cp (Ij a.text h.text) ?_;cases c0:Cd a.text with
   |false=>
    refine Ab (an @hn @hob) ?_;exact Ad
   |true=>
   rw[Gs];cases c1:((a.object.length:Int)==32)with
   |false=>
    refine Ab (A3 @hn @hob @c1) ?_;exact Ad
   |true=>
   cases c2:decide (a.target=[])with
   |false=>
    refine Ab (A4 @hn @hob @c1 @c2) ?_;exact Ad
   |true=>
   refine Ab (A4 @hn @hob @c1 @c2) ?_;refine cp (DY { a with text:=[],object:=[],target:=[] }) ?_
   refine Ab (A4 @hn @hob @c1 @c2) ?_;exact Ad
 ·have hv:Br a=(pub a.n&&decide (0≤a.m)&&decide (a.m<20)&&BB { a with n:=0,m:=0 }):=by
   unfold Br;rw[hk];show(out a .move&&Ru.ok a .move)=_
   simp only[out,Dc,Ru.ok,home,Ac.grant,Ac.setup,←Ep,Eo,BB,Cu,decide_true,Bool.and_true,Bool.true_and];ac_rfl
  rw[hv];refine Ab @hn ?_;refine cp (Mi a.n) ?_;cases c0:pub a.n with
  |false=>
   refine Ab @hn ?_;exact Ad
  |true=>
  by_cases p1:0≤a.m
  rotate_left
  ·rw[decide_eq_false p1]
   refine Ab @hn ?_;exact Ad
  rw[decide_eq_true p1];by_cases p2:a.m<20
  rotate_left
  ·rw[decide_eq_false p2]
   refine Ab @hn ?_;exact Ad
  rw[decide_eq_true p2];refine Ab @hn ?_;refine cp (DY { a with n:=0,m:=0 }) ?_
  refine Ab @hn ?_;exact Ad
 ·have hv:Br a=(CJ a.to&&decide (0<a.to.length)&&Fp a&&decide (1≤a.n)&&decide (a.n≤(a.to.length:Int))&&pub a.m&&BB { a with to:=[],wraps:=[],n:=0,m:=0 }):=by
   unfold Br;rw[hk];show(out a .setup&&Ru.ok a .setup)=_
   simp only[out,Dc,Ru.ok,home,Ac.grant,Ac.setup,←Ep,Eo,wi,BB,Cu,decide_true,Bool.and_true,Bool.true_and];ac_rfl
  rw[hv];refine Ab @hn ?_;refine cp (Ou a.to h.tos h.to) ?_;cases c0:CJ a.to with
  |false=>
   refine Ab @hn ?_;exact Ad
  |true=>
  by_cases p1:0<a.to.length
  rotate_left
  ·rw[decide_eq_false p1]
   refine Ab @hn ?_;exact Ad
  rw[decide_eq_true p1];refine Ab @hn ?_;refine cp (VX a h.wraps) ?_;cases c2:Fp a with
  |false=>
   refine Ab @hn ?_;exact Ad
  |true=>
  by_cases p3:1≤a.n
  rotate_left
  ·rw[decide_eq_false p3]
   refine Ab @hn ?_;exact Ad
  rw[decide_eq_true p3];by_cases p4:a.n≤(a.to.length:Int)
  rotate_left
  ·rw[decide_eq_false p4]
   refine Ab @hn ?_;exact Ad
  rw[decide_eq_true p4];refine Ab @hn ?_;refine cp (Mi a.m) ?_;cases c5:pub a.m with
  |false=>
   refine Ab @hn ?_;exact Ad
  |true=>
  refine Ab @hn ?_;refine cp (DY { a with to:=[],wraps:=[],n:=0,m:=0 }) ?_
  refine Ab @hn ?_;exact Ad
 ·have hv:Br a=(dig a.object&&BB { a with object:=[] }):=by
   unfold Br;rw[hk];show(out a .about&&Ru.ok a .about)=_
   simp only[out,Dc,Ru.ok,home,Ac.grant,Ac.setup,←Ep,Eo,wi,BB,Cu,decide_true,Bool.and_true,Bool.true_and];ac_rfl
  rw[hv];rw[Gs];cases c0:((a.object.length:Int)==32)with
  |false=>
   refine Ab (an @hn @c0) ?_;exact Ad
  |true=>
  refine Ab (an @hn @c0) ?_;refine cp (DY { a with object:=[] }) ?_
  refine Ab (an @hn @c0) ?_;exact Ad
 ·have hv:Br a=(dig a.object&&Dg a.text&&BB { a with object:=[],text:=[] }):=by
   unfold Br;rw[hk];show(out a .reason&&Ru.ok a .reason)=_
   simp only[out,Dc,Ru.ok,home,Ac.grant,Ac.setup,←Ep,Eo,wi,BB,Cu,decide_true,Bool.and_true,Bool.true_and];ac_rfl
  rw[hv];rw[Gs];cases c0:((a.object.length:Int)==32)with
  |false=>
   refine Ab (an @hn @c0) ?_;exact Ad
  |true=>
  rw[J1];cases c1:decide ((a.text.length:Int)≤500)with
  |false=>
   refine Ab (A3 @hn @c0 @c1) ?_;exact Ad
  |true=>
  refine Ab (A3 @hn @c0 @c1) ?_;refine cp (DY { a with object:=[],text:=[] }) ?_
  refine Ab (A3 @hn @c0 @c1) ?_;exact Ad
 ·have hv:Br a=(dig a.object&&decide (0≤a.n)&&decide (a.n≤1)&&BB { a with object:=[],n:=0 }):=by
   unfold Br;rw[hk];show(out a .judge&&Ru.ok a .judge)=_
   simp only[out,Dc,Ru.ok,home,Ac.grant,Ac.setup,←Ep,Eo,wi,BB,Cu,decide_true,Bool.and_true,Bool.true_and];ac_rfl
  rw[hv];rw[Gs];cases c0:((a.object.length:Int)==32)with
  |false=>
   refine Ab (an @hn @c0) ?_;exact Ad
  |true=>
  by_cases p1:0≤a.n
  rotate_left
  ·rw[decide_eq_false p1]
   refine Ab (an @hn @c0) ?_;exact Ad
  rw[decide_eq_true p1];by_cases p2:a.n≤1
  rotate_left
  ·rw[decide_eq_false p2]
   refine Ab (an @hn @c0) ?_;exact Ad
  rw[decide_eq_true p2];refine Ab (an @hn @c0) ?_;refine cp (DY { a with object:=[],n:=0 }) ?_
  refine Ab (an @hn @c0) ?_;exact Ad
 ·have hv:Br a=(Bw a.target&&Dg a.text&&decide (0≤a.n)&&decide (a.n≤1099511627776)&&BB { a with target:=[],text:=[],n:=0 }):=by
   unfold Br;rw[hk];show(out a .list&&Ru.ok a .list)=_
   simp only[out,Dc,Ru.ok,home,Ac.grant,Ac.setup,←Ep,Eo,wi,BB,Cu,decide_true,Bool.and_true,Bool.true_and];ac_rfl
  rw[hv];refine Ab @hn ?_;refine cp (Kq a.target h.target) ?_;cases c0:Bw a.target with
  |false=>
   refine Ab @hn ?_;exact Ad
  |true=>
  rw[J1];cases c1:decide ((a.text.length:Int)≤500)with
  |false=>
   refine Ab (an @hn @c1) ?_;exact Ad
  |true=>
  by_cases p2:0≤a.n
  rotate_left
  ·rw[decide_eq_false p2]
   refine Ab (an @hn @c1) ?_;exact Ad
  rw[decide_eq_true p2];by_cases p3:a.n≤1099511627776
  rotate_left
  ·rw[decide_eq_false p3]
   refine Ab (an @hn @c1) ?_;exact Ad
  rw[decide_eq_true p3];refine Ab (an @hn @c1) ?_;refine cp (DY { a with target:=[],text:=[],n:=0 }) ?_
  refine Ab (an @hn @c1) ?_;exact Ad
end Pe
end
section
namespace Pe
open Tryz
open Go Go.RowKit Co Sg Ac
set_option maxRecDepth 100000
set_option maxHeartbeats 4000000
theorem Ih(a:Ac.Act)(h:Sz a):AC prog 63 [Am a] [] (.bo (Ac.right a)) []:=by
 refine Ah [130,131] [] func63 ?_;obtain⟨q,hq⟩:∃q,Ac.right a=q:=⟨_,rfl⟩
 rw[hq];rw[Zcn]at hq;have hn:=GJ;refine run ?_;refine cp (Kq a.author h.author) ?_;cases c0:Bw a.author with
 |false=>
  obtain rfl:q=false:=by rw[←hq,c0];rfl
  refine run ?_;exact Ad
 |true=>
 by_cases s0:0≤a.seq
 rotate_left
 ·obtain rfl:q=false:=by
   rw[←hq];have hp:placed a=false:=by unfold placed;split<;>simp[wi,dig]<;>omega
   rw[hp];simp
  refine Ab @hn ?_;exact Ad
 by_cases s1:a.seq≤1073741824
 rotate_left
 ·obtain rfl:q=false:=by
   rw[←hq];have hp:placed a=false:=by unfold placed;split<;>simp[wi,dig]<;>omega
   rw[hp];simp
  refine Ab @hn ?_;exact Ad
 by_cases t0:0≤a.time
 rotate_left
 ·obtain rfl:q=false:=by
   rw[←hq];have hp:wi a.time 0 1099511627776=false:=by simp[wi];omega
   rw[hp];simp
  refine Ab @hn ?_;exact Ad
 by_cases t1:a.time≤1099511627776
 rotate_left
 ·obtain rfl:q=false:=by
   rw[←hq];have hp:wi a.time 0 1099511627776=false:=by simp[wi];omega
   rw[hp];simp
  refine Ab @hn ?_;exact Ad
 by_cases e0:0≤a.sig.e
 rotate_left
 ·obtain rfl:q=false:=by
   rw[←hq];have hp:BQ a.sig=false:=by simp[BQ,wi];omega
   rw[hp];simp
  refine Ab @hn ?_;exact Ad
 by_cases e1:a.sig.e<2305843009213693950
 rotate_left
 ·obtain rfl:q=false:=by
   rw[←hq];have hp:BQ a.sig=false:=by simp[BQ,wi];omega
   rw[hp];simp
  refine Ab @hn ?_;exact Ad
 by_cases f0:0≤a.sig.s
 rotate_left
 ·obtain rfl:q=false:=by
   rw[←hq];have hp:BQ a.sig=false:=by simp[BQ,wi];omega
   rw[hp];simp
  refine Ab @hn ?_;exact Ad
 by_cases f1:a.sig.s<2305843009213693950
 rotate_left
 ·obtain rfl:q=false:=by
   rw[←hq];have hp:BQ a.sig=false:=by simp[BQ,wi];omega
   rw[hp];simp
  refine Ab @hn ?_;exact Ad
 have htm:wi a.time 0 1099511627776=true:=Ch.2 ⟨t0,t1⟩;have hsg:BQ a.sig=true:=by simp[BQ,wi];omega
 by_cases z:a.seq=0
 ·cases cp0:decide (a.prev=[])with
  | false=>
   obtain rfl:q=false:=by
    have hp:placed a=false:=by unfold placed;rw[if_pos z,cp0,Bool.and_false]
    rw[←hq,hp];simp
   refine Ab (an @hn @cp0) ?_;exact Ad
  |true=>
  by_cases kz:a.kind=0
  rotate_left
  ·obtain rfl:q=false:=by
    have hp:placed a=false:=by unfold placed;rw[if_pos z,decide_eq_false kz];rfl
    rw[←hq,hp];simp
   refine Ab (an @hn @cp0) ?_;exact Ad
  obtain rfl:q=Br a:=by
   have hp:placed a=true:=by unfold placed;rw[if_pos z,decide_eq_true kz,cp0];rfl
   rw[←hq,hp,c0,htm,hsg];rfl
  refine Ab (an @hn @cp0) ?_;refine cp (Ww a h) ?_;refine run ?_;exact Ad
 ·have z':1≤a.seq:=by omega
  have hw1:wi a.seq 1 1073741824=true:=Ch.2 ⟨z',s1⟩;have hd:=Gs a.prev;cases cd:((a.prev.length:Int)==32)with
  | false=>
   have cd':((a.prev.length:Int) !=32)=true:=by simpa[bne] using cd
   obtain rfl:q=false:=by
    have hp:placed a=false:=by unfold placed;rw[if_neg z,hd,cd,Bool.and_false]
    rw[←hq,hp];simp
   refine Ab @cd' ?_;exact Ad
  |true=>
  have cd':((a.prev.length:Int) !=32)=false:=by simpa[bne] using cd
  by_cases kz:a.kind=0
  ·obtain rfl:q=false:=by
    have hp:placed a=false:=by unfold placed;rw[if_neg z,hw1,decide_eq_false (show ¬a.kind≠0 from fun h=>h kz)];rfl
    rw[←hq,hp];simp
   refine Ab @cd' ?_;exact Ad
  obtain rfl:q=Br a:=by
   have hp:placed a=true:=by unfold placed;rw[if_neg z,hw1,decide_eq_true (show a.kind≠0 from kz),hd,cd];rfl
   rw[←hq,hp,c0,htm,hsg];rfl
  refine Ab @cd' ?_;refine cp (Ww a h) ?_;refine run ?_;exact Ad
theorem Wy(b:Box)(h:b.nonce.length≤1000000∧b.data.length≤1000000∧b.tag.length≤1000000):AC prog 154 [Kx b] [] (.st (FG b)) []:=by
 refine Ah [76] [] func154 ?_;have l1:=BL h.1;have l2:=BL h.2.1;have l3:=BL h.2.2;unfold FG;refine run ?_;refine cp (Ck b.nonce (by omega)) ?_
 refine run ?_;refine cp (Ck b.data (by omega)) ?_
 refine run ?_;refine cp (Ck b.tag (by omega)) ?_
 refine run ?_;exact Ad
def I5(a:Ac.Act):By:=
 text FN++text a.author++Ai a.seq++text a.prev++Ai a.kind++Ai a.time++text a.object++text a.target++Ai a.scope++text a.group++list a.to++text a.text++FG a.body++Ai a.epoch++num a.wraps.length
theorem ZgY(a:Ac.Act):Gt a=I5 a++(a.wraps.map Cg).flatten++Ai a.n++Ai a.m:=by
 unfold Gt I5;simp only[List.append_assoc]
theorem QQ(a:Ac.Act)(h:Sz a):AC prog 84 [Am a] [] (.st (Bx a)) []:=by
 refine Ah [63,76,77,153,154] [] func84 ?_;unfold Bx;refine run ?_;refine cp (Ih a h) ?_;cases hr:Ac.right a with
 |false=>rw[if_neg (by simp)];refine run ?_;exact Ad
 | true=>
  rw[if_pos rfl];have sm:=Cp hr;have hto:a.to.length≤1000000:=by have :=sm.to;omega
  have htx:∀x∈a.to,x.length≤1000000:=fun x hx=>by have :=sm.to.2 x hx;omega
  have q1:=BL (s:=FN) (by simp)
  have k1:=Ck FN (by simp)
  have q2:=BL (s:=a.author) (by have :=sm.author;omega)
  have k2:=Ck a.author (by have :=sm.author;omega)
  have q3:=AI a.seq (by have :=sm.seq;omega)
  have k3:=B2 a.seq (by have :=sm.seq;omega)
  have q4:=BL (s:=a.prev) (by have :=sm.prev;omega)
  have k4:=Ck a.prev (by have :=sm.prev;omega)
  have q5:=AI a.kind (by have :=sm.kind;omega)
  have k5:=B2 a.kind (by have :=sm.kind;omega)
  have q6:=AI a.time (by have :=sm.time;omega)
  have k6:=B2 a.time (by have :=sm.time;omega)
  have q7:=BL (s:=a.object) (by have :=sm.object;omega)
  have k7:=Ck a.object (by have :=sm.object;omega)
  have q8:=BL (s:=a.target) (by have :=sm.target;omega)
  have k8:=Ck a.target (by have :=sm.target;omega)
  have q9:=AI a.scope (by have :=sm.scope;omega)
  have k9:=B2 a.scope (by have :=sm.scope;omega)
  have q10:=BL (s:=a.group) (by have :=sm.group;omega)
  have k10:=Ck a.group (by have :=sm.group;omega)
  have q11:=UY (l:=a.to) hto htx;have k11:=Wg a.to hto htx;have q12:=BL (s:=a.text) (by have :=sm.text;omega)
  have k12:=Ck a.text (by have :=sm.text;omega)
  have q13:=MA a.body (by have :=sm.body;omega)
  have k13:=Wy a.body (by have :=sm.body;omega)
  have q14:=AI a.epoch (by have :=sm.epoch;omega)
  have k14:=B2 a.epoch (by have :=sm.epoch;omega)
  have q15:=EJ (n:=a.wraps.length) (by have :=sm.wraps;omega)
  have k15:=B2 (a.wraps.length:Int) (by have :=sm.wraps;omega)
  rw[H9]at k15;have q16:=AI a.n (by have :=sm.n;omega)
  have k16:=B2 a.n (by have :=sm.n;omega)
  have q17:=AI a.m (by have :=sm.m;omega)
  have k17:=B2 a.m (by have :=sm.m;omega)
  have hwr:=sm.wraps;have hlp:(I5 a).length≤2000000000000:=by
   unfold I5;simp only[List.length_append];omega
  rw[ZgY];have hsz:AK 5 (a.wraps.map Bj)=true:=BG 5 Bj (fun _=>rfl) _
  clear hr sm h;refine run ?_;refine cp k1 ?_;refine run ?_;refine cp k2 ?_;refine run ?_;refine cp k3 ?_;refine run ?_;refine cp k4 ?_;refine run ?_;refine cp k5 ?_;refine run ?_;refine cp k6 ?_;refine run ?_;refine cp k7 ?_;refine run ?_;refine cp k8 ?_;refine run ?_;refine cp k9 ?_;refine run ?_;refine cp k10 ?_;refine run ?_;refine cp k11 ?_;refine run ?_;refine cp k12 ?_;refine run ?_;refine cp k13 ?_;refine run ?_;refine cp k14 ?_;refine run ?_;refine cp k15 ?_;refine run ?_;refine AN (fun m e S=>e 1=.ptr 0 0 ∧ ∃(k:Nat),e 5=.it .i64 (k:Int)∧e 4=.st (I5 a++((a.wraps.take k).map Cg).flatten)∧S=[.cells (JA a)]∧k≤a.wraps.length∧m=a.wraps.length-k) a.wraps.length
   ⟨Aa,0,Aa,by rw[List.take_zero,List.map_nil,List.flatten_nil,List.append_nil];exact Aa,rfl,by omega,rfl⟩ ?_
  clear k1 k2 k3 k4 k5 k6 k7 k8 k9 k10 k11 k12 k13 k14 k15;clear q1 q2 q3 q4 q5 q6 q7 q8 q9 q10 q11 q12 q13 q14 q15;rintro m e S ⟨s1,k,s5,s4,rfl,hk,rfl⟩
  have hlen:=R1 hwr.2 hwr.1 k;by_cases hlt:k<a.wraps.length
  rotate_left
  ·obtain rfl:k=a.wraps.length:=by omega
   rw[List.take_length]at s4 hlen;have hx:¬((a.wraps.length:Nat):Int)<(a.wraps.length:Int):=by omega
   generalize (a.wraps.map Cg).flatten=z at *;generalize I5 a=p at *;refine Ab (A4 @s1 @s5 @s4 @hx) ?_;refine cp k16 ?_;refine Ab (A3 @s1 @s5 @s4) ?_;refine cp k17 ?_;refine Ab (A3 @s1 @s5 @s4) ?_;exact Ad
  have hg:a.wraps[k]? = some a.wraps[k]:=List.getElem?_eq_getElem hlt
  have hx:=hwr.2 a.wraps[k] (List.getElem_mem hlt);have hstep:((a.wraps.take (k+1)).map Cg).flatten=((a.wraps.take k).map Cg).flatten++Cg a.wraps[k]:=by
   rw[List.take_succ_eq_append_getElem hlt,List.map_append,List.flatten_append];congr 1
   exact List.append_nil _
  generalize a.wraps[k]=x at *;have hx':=M1 hx;have hbl:=MA x.box hx'.2.2;have hn1:=AI x.to (by omega)
  have hn2:=AI x.eph (by omega)
  generalize ((a.wraps.take k).map Cg).flatten=z at *;generalize I5 a=p at *;have hwl:=hwr.1;clear k16 k17 q16 q17 hwr;refine Ab (A5 @s1 @s5 @s4 @hg @hsz) ?_;refine cp (B2 x.to (by omega)) ?_
  refine Ab (A5 @s1 @s5 @s4 @hg @hsz) ?_;refine cp (B2 x.eph (by omega)) ?_
  refine Ab (A5 @s1 @s5 @s4 @hg @hsz) ?_;refine cp (Wy x.box hx'.2.2) ?_;refine Ab (A3 @s1 @s5 @s4) ?_;exact Aj (a.wraps.length-(k+1)) (by omega) ⟨Aa,k+1,Aa,by rw[hstep];unfold Cg;simp only[List.append_assoc];exact Aa,rfl,by omega,rfl⟩
theorem Q4(a:Ac.Act)(hr:Ac.right a=true):Bx a≠[]:=by
 unfold Bx Gt;rw[if_pos hr]
 have:(text FN).length=4:=rfl;intro e;have :=congrArg List.length e;simp only[List.length_append,List.length_nil]at this;omega
theorem ZfT(a:Ac.Act)(h:Sz a):AC prog 226 [Am a] [] (.st (Ac.bytes a)) []:=by
 refine Ah [84,77] [] func226 ?_;refine run ?_;refine cp (QQ a h) ?_;cases hr:Ac.right a with
 |false=>
  have h0:Bx a=[]:=by unfold Bx;rw[hr];rfl
  have h1:Ac.bytes a=[]:=by unfold Ac.bytes;rw[hr];rfl
  rw[h1,h0];refine run ?_;exact Ad
 |true=>
  have hne:=Q4 a hr;have hl:=Q5 (a:=a);have h1:Ac.bytes a=Bx a++Ai a.sig.e++Ai a.sig.s:=by unfold Ac.bytes Bx;rw[if_pos hr,if_pos hr]
  have sm:=(Cp hr).sig;simp only[BQ,Bool.and_eq_true,Ch]at sm;rw[h1];have hq:(Bx a==[])=false:=by simpa using hne
  have n1:=AI a.sig.e (by omega)
  have n2:=AI a.sig.s (by omega)
  generalize Bx a=c at *;refine Ab @hq ?_;refine cp (B2 a.sig.e (by omega)) ?_
  refine run ?_;refine cp (B2 a.sig.s (by omega)) ?_
  refine run ?_;exact Ad
end Pe
end
section
namespace Pe
open Tryz
open Go Go.RowKit Co Sg Ac
set_option maxRecDepth 100000
set_option maxHeartbeats 4000000
theorem Ao.reserveK[Tab](N0:Nat){e:Af}{S:Ae}(l i:Nat){cs es:List AV}(hS:S[l]? = some (.cells cs))(hi:cs[i]? = some (.sl .full es))(ty:TypeId)(sz:Nat):Ao N0 e S e (S.set l (.cells (cs.set i (.sl (.own S.length) es)))++[.buf es.length ty sz]):=by
 rintro N w0 g0 a w hn ⟨h1,h2,g,h3,h4,h5⟩
 obtain⟨g',h6,h7,h8,h9,h10⟩:=h3.reserve es.length ty sz;have hlS:=(List.getElem?_eq_some_iff.1 hS).1
 have hic:=(List.getElem?_eq_some_iff.1 hi).1
 have hn3:=h3.nid;have hn6:=h6.nid;rw[List.length_append,List.length_singleton]at hn6;refine⟨h1,h2,g',⟨by rw[List.length_append,List.length_set,List.length_singleton];exact hn6,fun k o hk=>?_,h6.disj,h6.lt,h6.tab⟩,fun t=>(h4 t).le h7.toLe,h5.trans h7⟩
 by_cases hkl:k=l
 ·subst hkl
  rw[List.getElem?_append_left (by rw[List.length_set];exact hlS),List.getElem?_set_self hlS]at hk
  cases hk
  obtain⟨k1,k2,k3,arr,T,fr,k4,k5,k6,k7,k8⟩:=h6.obj k (.cells cs) (Jo hS _);refine⟨k1,k2,k3,arr,T,fr,k4,k5,by rw[List.length_set];exact k6,k7,fun j u v hu hv=>?_⟩
  by_cases hj:j=i
  ·subst hj
   rw[List.getElem?_set_self hic]at hu
   cases hu
   refine(k8 j _ v hi hv).own_full (by omega) ?_ ?_
   ·rw[←hn3];exact h9
   ·rw[←hn3];exact h10
  ·rw[List.getElem?_set_ne (Ne.symm hj)]at hu
   exact k8 j u v hu hv
 ·refine h6.obj k o ?_
  by_cases hkS:k<S.length
  ·rw[List.getElem?_append_left (by rw[List.length_set];exact hkS),List.getElem?_set_ne (Ne.symm hkl)]at hk
   rw[List.getElem?_append_left hkS]
   exact hk
  ·rw[List.getElem?_append_right (by rw[List.length_set];omega),List.length_set]at hk
   rw[List.getElem?_append_right (by omega)]
   exact hk
theorem V3(k:Int):AC prog 225 [.it .i64 k] [] (.bo (Cx k)) []:=by
 refine Ar [] [] func225 ?_;by_cases c1:1≤k
 ·by_cases c2:k≤3
  ·have hp:Cx k=true:=by
    unfold Cx;simp only[Bool.or_eq_true,decide_eq_true_eq];omega
   rw[hp];refine Ab (an @c1 @c2) ?_;exact Ad
  ·have hp:Cx k=false:=by
    unfold Cx;simp only[Bool.or_eq_false_iff,decide_eq_false_iff_not];omega
   rw[hp];refine Ab (an @c1 @c2) ?_;exact Ad
 ·have hp:Cx k=false:=by
   unfold Cx;simp only[Bool.or_eq_false_iff,decide_eq_false_iff_not];omega
  rw[hp];refine Ab @c1 ?_;exact Ad
theorem Oh(p:Int)(a:Ac.Act)(h:Sz a)(hp:-9223372036854775808≤p∧p≤9223372036854775807):AC prog 65 [.it .i64 p,Am a] [] (.bo (BO p a)) []:=by
 refine Ar [63,84,133] [] func65 ?_;unfold BO;have hl:=OB (a:=a);refine run ?_;refine cp (Ih a h) ?_;cases hr:right a with
 |false=>refine run ?_;exact Ad
 |true=>
  have hs:=(Cp hr).sig;simp only[BQ,Bool.and_eq_true,Ch]at hs;refine run ?_;refine cp (QQ a h) ?_;refine run ?_;refine cp (ZbV p (Bx a) a.sig (by omega)) ?_
  refine run ?_;exact Ad
theorem Mg(k:Key)(a:Ac.Act)(h:Sz a)(t1:a.to.length≤1000000)(t2:a.wraps.length≤1000000)(hk:-9223372036854775808≤k.secret∧k.secret≤9223372036854775807):AC prog 38 [E9 k,Am a] [] (Am (Bs k a)) []:=by
 refine Ar [63,82,84,83] [] func38 ?_;have h0:Sz { a with sig:=Cn }:=⟨h.author,h.target,h.group,h.text,h.tos,h.to,h.wraps⟩
 unfold Bs;simp only
 have hl:=OB (a:={ a with sig:=Cn })
 have z1:AK 1 (a.to.map AV.st)=true:=BG 1 AV.st (fun _=>rfl) _
 have z2:AK 5 (a.wraps.map Bj)=true:=BG 5 Bj (fun _=>rfl) _
 have f1:CM a.to.length 16=true:=by simp[CM];omega
 have f2:∀b,b≤1000→CM a.wraps.length b=true:=fun b hb=>by
  have:a.wraps.length*b≤1000000*1000:=Nat.mul_le_mul t2 hb;simp[CM];omega
 refine Ab (A4 @z1 @z2 @f1 @f2) ?_;refine cp (Ih { a with sig:=Cn } h0) ?_
 refine run ?_;refine cp (PI k hk) ?_;cases hr:right { a with sig:=Cn } with
 |false=>
  rw[if_neg (by simp)]
  refine run ?_;exact Au
 | true=>
  cases hkr:k.right with
  |false=>
   rw[if_neg (by simp)]
   refine run ?_;exact Au
  |true=>
   rw[if_pos (by rfl)]
   refine run ?_;refine cp (QQ { a with sig:=Cn } h0) ?_
   refine run ?_;refine cp (Zb9 k _ (by omega) hk) ?_
   refine run ?_;exact Au
end Pe
end
section
namespace Pe
open Tryz
open Go Go.RowKit Co Sg Ac It
set_option maxRecDepth 100000
set_option maxHeartbeats 4000000
theorem Zhg(c:It.Claim):(c.actor==[]&&(c.base==0&&(c.prev==[]&&(c.gen==0&&(c.home==0&&(c.pub==0&&(c.time==0&&(c.sig.e==0&&c.sig.s==0))))))))=decide (c=Ei):=by
 obtain⟨a,b,p,g,h,u,t,⟨x,y⟩⟩:=c;rw[Bool.eq_iff_iff];simp[Ei,Cn]
theorem ZhW(c:It.Ballot):(c.server==0&&(c.actor==[]&&(c.gen==0&&(c.claim==[]&&(c.time==0&&(c.sig.e==0&&c.sig.s==0))))))=decide (c=Gv):=by
 obtain⟨s,a,g,h,t,⟨x,y⟩⟩:=c;rw[Bool.eq_iff_iff];simp[Gv,Cn]
theorem LY[Tab]{N0:Nat}{B:(AX→Af→Ae→Prop)→Af→Ae→Prop}{Q:AX→Af→Ae→Prop}{e:Af}{S:Ae}(h:B (CX Q fun _ _=>False) e S):HJ N0 B Q e S:=
 ⟨fun n e' S'=>n=0∧e'=e∧S'=S,⟨0,e,S,Ao.refl N0 e S,rfl,rfl,rfl⟩,fun n e' S' ⟨h1,h2,h3⟩=>by
  subst h1 h2 h3;rw[show ∀I,IZ N0 I 0=(fun _ _=>False)from fun I=>funext fun e=>funext fun S=>propext ⟨fun⟨n,_,_,h,_⟩=>absurd h (Nat.not_lt_zero n),False.elim⟩]
  exact h⟩
theorem Zfz(a:Ac.Act)(h:Ac.right a=true∨a=Al):∃b,AC prog 231 [Am a,Am Al] [] (.bo b) []:=by
 have e0:Am Al=.agg [.st [],.it .i64 0,.st [],.it .i64 0,.it .i64 0,.st [],.st [],.it .i64 0,.st [],.sl .ro [],.st [],.st [],.st [],.st [],.it .i64 0,.sl .ro [],.it .i64 0,.it .i64 0,.it .i64 0,.it .i64 0]:=rfl;rw[e0];rcases h with h|rfl
 ·refine⟨false,?_⟩
  have hau:(a.author==[])=false:=beq_eq_false_iff_ne.2 fun e=>by
   have :=(right_iff.1 h).1;rw[e]at this;exact absurd this (by decide)
  by_cases l1:a.to.length=0
  rotate_left
  ·refine Ah [] [] func231 ?_
   have q1:((a.to.length:Int)==0)=false:=Cb (by omega)
   refine Ab @q1 ?_;exact Ad
  by_cases l2:a.wraps.length=0
  rotate_left
  ·refine Ah [] [] func231 ?_
   have q1:((a.to.length:Int)==0)=true:=by rw[l1];rfl
   have q2:((a.wraps.length:Int)==0)=false:=Cb (by omega)
   refine Ab (an @q1 @q2) ?_;exact Ad
  refine Ah [] [] func231 ?_;have q1:((a.to.length:Int)==0)=true:=by rw[l1];rfl
  have q2:((a.wraps.length:Int)==0)=true:=by rw[l2];rfl
  have x1:¬(0:Int)<(a.to.length:Int):=by omega
  have x2:¬(0:Int)<(a.wraps.length:Int):=by omega
  refine Ab (an @q1 @q2) ?_;refine LY ?_
  refine Ab @x1 ?_;refine LY ?_
  refine Ab (an @x2 @hau) ?_;exact Ad
 ·refine⟨true,?_⟩
  rw[e0];refine Ah [] [] func231 ?_;refine run ?_;refine LY ?_
  refine run ?_;refine LY ?_
  refine run ?_;exact Ad
theorem Zfy:AC prog 232 [Mp FF,Mp FF] [] (.bo true) []:=by
 rw[show Mp FF=.agg [.it .i64 0,.it .i64 0,.it .i64 0,.st [],.st [],.st [],.sl .ro [],.it .i64 0,.it .i64 0,.it .i64 0,.it .i64 0,.it .i64 0]from rfl]
 refine Ah [] [] func232 ?_;refine run ?_;refine LY ?_
 refine run ?_;exact Ad
theorem VZ(i:It.Item)(h:Iz i):AC prog 136 [Be i] [] (.bo (It.right i)) []:=by
 obtain⟨hs,_,_,_,a,rfl,hra⟩:=h;obtain⟨b,k1⟩:=Zfz a hra;have e1:=(Zhg (Ay a).claim).trans (decide_eq_true (show(Ay a).claim=Ei from rfl))
 have e2:=(ZhW (Ay a).ballot).trans (decide_eq_true (show(Ay a).ballot=Gv from rfl))
 have q0:((Ay a).kind==0)=true:=rfl;rw[PK];refine Ah [231,232,63,233,234,235] [] func136 ?_;refine run ?_;refine cp k1 ?_;refine Ab (an @e1 @e2) ?_;refine cp Zfy ?_;refine Ab @q0 ?_;refine cp (Ih a hs) ?_;cases c0:Ac.right a with
 |false=>
  refine Ab @q0 ?_;exact Ad
 |true=>
  refine Ab @q0 ?_;exact Ad
theorem ZfS(i:It.Item)(h:Iz i):AC prog 135 [Be i] [] (.st (It.bytes i)) []:=by
 refine Ah [136,77,226,227,229,230,228] [] func135 ?_;have kr:=VZ i h;cases hr:It.right i with
 |false=>
  rw[hr]at kr;rw[It.bytes_wrong hr];refine run ?_;refine cp kr ?_;refine run ?_;exact Ad
 |true=>
 rw[hr]at kr;have hkk:i.kind=0:=by obtain⟨a,rfl,_⟩:=h.act1;rfl
 have hl0:=AI i.kind (by omega)
 have kn:=B2 i.kind (by omega)
 have h0:i.kind=0:=by obtain⟨a,rfl,_⟩:=h.act1;rfl
 rw[XT hr h0];have k2:=ZfT i.act h.act;have hl:=Rb (a:=i.act);generalize Ac.bytes i.act=z at *;generalize Ai i.kind=n0 at *;refine run ?_;refine cp kr ?_;refine run ?_;refine cp kn ?_;refine run ?_;refine cp k2 ?_;refine run ?_;exact Ad
end Pe
end
section
namespace Pe
open Tryz
open Go Go.RowKit Co Sg Ac It
set_option maxRecDepth 100000
set_option maxHeartbeats 4000000
theorem ZfR(i:It.Item)(h:Iz i):AC prog 67 [Be i] [] (.st (It.digest i)) []:=by
 refine Ar [135,75] [] func67 ?_;have kb:=ZfS i h;have hl:=XV i;unfold It.digest;generalize It.bytes i=bs at *;refine run ?_;refine cp kb ?_;by_cases hb:bs=[]
 ·subst hb
  rw[if_pos rfl];refine run ?_;exact Ad
 ·have hq:(bs==[])=false:=Uu bs [] hb
  rw[if_neg hb];refine Ab @hq ?_;refine cp (J8 bs (by omega)) ?_
  refine run ?_;exact Ad
theorem Wb(a:Ac.Act):AC prog 279 [Am a] [] (Be (Ay a)) []:=by
 refine Ar [] [] func279 ?_;refine run ?_;exact Au
end Pe
end
section
namespace Pe
open Tryz
open Go Go.RowKit Co Sg Ac It Sl Tp
set_option maxRecDepth 100000
set_option maxHeartbeats 4000000
abbrev Ba(a:Ac.Act):AV:=Be (Ay a)
abbrev DX(ps:List Int)(l:List Ac.Act):AV:=.agg [AP ps,.sl .ro (l.map Ba)]
abbrev Bt(k:Tp.KeyAt):AV:=.agg [.it .i64 k.frm,.it .i64 k.pub,.it .i64 k.home]
abbrev Bu(l:List Ac.Act):AV:=.sl .ro (l.map Am)
abbrev AG(c:Chn):AV:=.agg [.st c.id,Bu c.acts,.sl .ro (c.keys.map Bt),.st c.prev,.it .i64 c.gen,.bo c.fork]
theorem EL(l:List Ac.Act):AK 49 (l.map Ba)=true:=BG 49 Ba (fun _=>rfl) _
theorem BX(l:List Ac.Act):AK 20 (l.map Am)=true:=BG 20 Am (fun _=>rfl) _
theorem GK(l:List Tp.KeyAt):AK 3 (l.map Bt)=true:=BG 3 Bt (fun _=>rfl) _
def Rt(l:List Ac.Act):Prop:=∀a∈l,Ac.right a=true
theorem Rt.iz{l:List Ac.Act}(h:Rt l):∀a∈l,Iz (Ay a):=fun a ha=>Dp (act_signed [] (h a ha)).1
theorem GQ(a:Ac.Act)(h:Iz (Ay a)):AC prog 67 [Ba a] [] (.st (dg a)) []:=ZfR (Ay a) h
theorem Zep(ps:List Int):AC prog 23 [AP ps] [] (DX ps []) []:=by
 refine Ah [] [] func23 ?_;refine run ?_;exact Au
theorem Ze2(a:Ac.Act)(l:List Ac.Act)(d:By):Gn (a::l) d=if(d==[] || !(dg a==d))=true then Gn l d+1 else 0:=rfl
theorem AT{k:Nat}(h:k<4611686018427387904):IntKind.i64.wrap ((k:Int)+1)=((k+1:Nat):Int):=by rw[wrap64 (by omega) (by omega)];omega
theorem Zew(ps:List Int)(l:List Ac.Act)(d:By)(hl:l.length≤1000)(hz:∀a∈l,Iz (Ay a)):AC prog 132 [DX ps l,.st d] [] (.it .i64 (Gn l d:Nat)) []:=by
 have hsz:=EL l;refine Ah [67] [] func132 ?_;refine run ?_;refine AN (fun m e S=>e 1=.st d∧e 2=.ptr 0 0∧S=[.cells [AP ps,.sl .ro (l.map Ba)]] ∧ ∃i:Nat,e 5=.it .i64 (i:Int)∧Gn l d=i+Gn (l.drop i) d∧i≤l.length∧m=l.length-i) l.length ⟨Aa,Aa,rfl,0,Aa,by simp,by omega,rfl⟩ ?_
 rintro m e S ⟨s1,s2,rfl,i,s5,he,hi,rfl⟩
 by_cases hlt:i<l.length
 ·have hg:l[i]? = some l[i]:=List.getElem?_eq_getElem hlt
  have hdr:l.drop i=l[i]::l.drop (i+1):=List.drop_eq_getElem_cons hlt;have hlt':(i:Int)<(l.length:Int):=by omega
  have w1:=AT (k:=i) (by omega)
  have kd:=GQ l[i] (hz _ (List.getElem_mem hlt));rw[hdr,Ze2]at he;generalize l[i]=a at *;generalize dg a=y at *;by_cases hd:d=[]
  ·have q:(d==[])=true:=by rw[hd];rfl
   rw[if_pos (by rw[q];rfl)]at he
   refine Ab (A6 @s1 @s2 @s5 @hlt' @q @w1) ?_;exact Aj (l.length-(i+1)) (by omega) ⟨Aa,Aa,rfl,i+1,Aa,by omega,by omega,rfl⟩
  ·have q:(d==[])=false:=beq_eq_false_iff_ne.2 hd
   by_cases hy:y=d
   ·have q2:(y==d)=true:=beq_iff_eq.2 hy
    rw[if_neg (by rw[q,q2];decide)]at he
    rw[Nat.add_zero]at he;rw[he];refine Ab (A7 @s1 @s2 @s5 @hlt' @q @hg @hsz) ?_;refine cp kd ?_;refine Ab (A4 @s1 @s2 @s5 @q2) ?_;exact Ad
   ·have q2:(y==d)=false:=beq_eq_false_iff_ne.2 hy
    rw[if_pos (by rw[q2];simp)]at he
    refine Ab (A7 @s1 @s2 @s5 @hlt' @q @hg @hsz) ?_;refine cp kd ?_;refine Ab (A5 @s1 @s2 @s5 @q2 @w1) ?_;exact Aj (l.length-(i+1)) (by omega) ⟨Aa,Aa,rfl,i+1,Aa,by omega,by omega,rfl⟩
 ·obtain rfl:i=l.length:=by omega
  rw[List.drop_length]at he;have he:Gn l d=l.length:=he;have hlt':¬(l.length:Int)<(l.length:Int):=by omega
  rw[he];refine Ab (A4 @s1 @s2 @s5 @hlt') ?_;exact Ad
theorem U8(ps:List Int)(l:List Ac.Act)(d:By)(hl:l.length≤1000)(hz:∀a∈l,Iz (Ay a)):AC prog 64 [DX ps l,.st d] [] (.bo (Ff l d)) []:=by
 have k:=Zew ps l d hl hz;have hq:decide (((Gn l d:Nat):Int)<(l.length:Int))=Ff l d:=by unfold Ff;rw[decide_eq_decide];omega
 refine Ah [132] [] func64 ?_;refine run ?_;refine cp k ?_;refine Ab @hq ?_;exact Ad
theorem ZeF(a b:Ac.Act)(ha:Iz (Ay a))(hb:Iz (Ay b)):AC prog 278 [Ba a,Ba b] [] (.bo (MG a b)) []:=by
 have k1:=GQ a ha;have k2:=GQ b hb;unfold MG Jh;by_cases h:a.seq≠b.seq
 ·have q:((Ay a).act.seq !=(Ay b).act.seq)=true:=C6 h
  have q1:decide ((Ay a).act.seq>(Ay b).act.seq)=decide (b.seq<a.seq):=rfl;rw[if_pos h];refine Ah [67] [] func278 ?_;refine Ab (an @q @q1) ?_;exact Ad
 ·have q:((Ay a).act.seq !=(Ay b).act.seq)=false:=Df (Decidable.not_not.1 h)
  have q1:((Ay a).decision.number !=(Ay b).decision.number)=false:=rfl;rw[if_neg h];generalize dg a=x at *;generalize dg b=y at *;refine Ah [67] [] func278 ?_;refine Ab (an @q @q1) ?_;refine cp k1 ?_;refine Ab (an @q @q1) ?_;refine cp k2 ?_;refine Ab (an @q @q1) ?_;exact Ad
end Pe
end
section
namespace Pe
open Tryz
open Go Go.RowKit Co Sg Ac It Sl Tp
set_option maxRecDepth 100000
set_option maxHeartbeats 4000000
theorem ZhB(a:Ac.Act)(h:Iz (Ay a)):AC prog 194 [Am a] [] (.st (dg a)) []:=by
 have k1:=Wb a;have k2:=GQ a h;change AC _ _ _ _ (Ba a) _ at k1;generalize dg a=d at *;generalize Ay a=i at *;refine Ah [279,67] [] func194 ?_;refine run ?_;refine cp k1 ?_;refine run ?_;refine cp k2 ?_;refine run ?_;exact Ad
theorem TO{a:Ac.Act}(h:Ac.right a=true):AC prog 194 [Am a] [] (.st (dg a)) []:=ZhB a (Dp (act_signed [] h).1)
theorem Ze4(a:Ac.Act)(l:List Ac.Act)(d:By):Bl (a::l) d=if dg a=d then some 0 else(Bl l d).map (· + 1):=rfl
theorem Zhi(c:Chn)(d:By)(hl:c.acts.length≤1000)(hr:Rt c.acts):AC prog 223 [AG c,.st d] [] (.tup [.it .i64 (((Bl c.acts d).getD 0:Nat):Int),.bo (Bl c.acts d).isSome]) []:=by
 obtain⟨id,acts,keys,prev,gen,fork⟩:=c;simp only at hl hr
 show AC _ _ _ _ (.tup [.it .i64 (((Bl acts d).getD 0:Nat):Int),.bo (Bl acts d).isSome]) _
 have hsz:=BX acts;refine Ah [194] [] func223 ?_;refine run ?_;refine AN (fun m e S=>e 1=.st d∧e 2=.ptr 0 0∧S=[.cells [.st id,Bu acts,.sl .ro (keys.map Bt),.st prev,.it .i64 gen,.bo fork]] ∧ ∃i:Nat,e 6=.it .i64 (i:Int)∧Bl acts d=(Bl (acts.drop i) d).map (· + i)∧i≤acts.length∧m=acts.length-i) acts.length ⟨Aa,Aa,rfl,0,Aa,by simp,by omega,rfl⟩ ?_
 rintro m e S ⟨s1,s2,rfl,i,s6,he,hi,rfl⟩
 by_cases hlt:i<acts.length
 ·have hg:acts[i]? = some acts[i]:=List.getElem?_eq_getElem hlt
  have hdr:acts.drop i=acts[i]::acts.drop (i+1):=List.drop_eq_getElem_cons hlt;have hlt':(i:Int)<(acts.length:Int):=by omega
  have w1:=AT (k:=i) (by omega)
  have kd:=TO (hr acts[i] (List.getElem_mem hlt));rw[hdr,Ze4]at he;generalize acts[i]=a at *;generalize dg a=y at *;by_cases hy:y=d
  ·have q2:(y==d)=true:=beq_iff_eq.2 hy
   rw[if_pos hy]at he;have he:Bl acts d=some i:=by rw[he];simp
   rw[he];refine Ab (A6 @s1 @s2 @s6 @hlt' @hg @hsz) ?_;refine cp kd ?_;refine Ab (A4 @s1 @s2 @s6 @q2) ?_;exact Ad
  ·have q2:(y==d)=false:=beq_eq_false_iff_ne.2 hy
   rw[if_neg hy]at he;have he:Bl acts d=(Bl (acts.drop (i+1)) d).map (· + (i+1)):=by
    rw[he,Option.map_map];congr 1
    funext n
    show n+1+i=n+(i+1)
    omega
   refine Ab (A6 @s1 @s2 @s6 @hlt' @hg @hsz) ?_;refine cp kd ?_;refine Ab (A5 @s1 @s2 @s6 @q2 @w1) ?_;exact Aj (acts.length-(i+1)) (by omega) ⟨Aa,Aa,rfl,i+1,Aa,he,by omega,rfl⟩
 ·obtain rfl:i=acts.length:=by omega
  rw[List.drop_length]at he;have he:Bl acts d=none:=he;have hlt':¬(acts.length:Int)<(acts.length:Int):=by omega
  rw[he];refine Ab (A4 @s1 @s2 @s6 @hlt') ?_;exact Ad
theorem ZgS(k:Int):AC prog 224 [.it .i64 k] [] (.bo (IS k)) []:=by
 refine Ah [] [] func224 ?_;unfold IS;by_cases h1:k=4
 ·subst h1
  refine run ?_;exact Ad
 have q1:(k==4)=false:=beq_eq_false_iff_ne.2 h1;by_cases h2:k=5
 ·subst h2
  refine run ?_;exact Ad
 have q2:(k==5)=false:=beq_eq_false_iff_ne.2 h2;by_cases h3:k=7
 ·subst h3
  refine run ?_;exact Ad
 have q3:(k==7)=false:=beq_eq_false_iff_ne.2 h3;by_cases h4:k=8
 ·subst h4
  refine run ?_;exact Ad
 have q4:(k==8)=false:=beq_eq_false_iff_ne.2 h4;by_cases h5:k=10
 ·subst h5
  refine run ?_;exact Ad
 have q5:(k==10)=false:=beq_eq_false_iff_ne.2 h5;by_cases h6:k=11
 ·subst h6
  refine run ?_;exact Ad
 have q6:(k==11)=false:=beq_eq_false_iff_ne.2 h6;by_cases h7:k=17
 ·subst h7
  refine run ?_;exact Ad
 have q7:(k==17)=false:=beq_eq_false_iff_ne.2 h7;by_cases h8:k=23
 ·subst h8
  refine run ?_;exact Ad
 have q8:(k==23)=false:=beq_eq_false_iff_ne.2 h8;rw[q1,q2,q3,q4,q5,q6,q7,q8];refine Ab (A8 @q1 @q2 @q3 @q4 @q5 @q6 @q7 @q8) ?_;exact Ad
theorem Ra(c:Chn)(kind time:Int)(hl:c.acts.length≤1000):AC prog 58 [AG c,.it .i64 kind,.it .i64 time] [] (Am (BU c kind time)) []:=by
 obtain⟨id,acts,keys,prev,gen,fork⟩:=c;refine Ah [] [] func58 ?_;refine run ?_;exact Au
theorem Oc:∀(l:List Ac.Act) (d:By) (i:Nat),Bl l d=some i→i<l.length
 |[],_,_,h=>by cases h
 | a::l,d,i,h=>by
  unfold Bl at h;split at h
  ·cases h;simp
  ·obtain⟨j,hj,rfl⟩:=Option.map_eq_some_iff.1 h
   have :=Oc l d j hj;rw[List.length_cons];omega
theorem Zg8(c:Chn)(a:Ac.Act)(hl:c.acts.length≤1000)(hr:Rt c.acts):AC prog 134 [AG c,Am a] [] (.bo (FT c a)) []:=by
 have k:=Zhi c a.object hl hr;have hsz:=BX c.acts;by_cases h6:a.kind=6
 ·have q6:(a.kind==6)=true:=beq_iff_eq.2 h6
  have n6:(a.kind !=6)=false:=Df h6;have ho:FT c a=match Bl c.acts a.object with
    |none=>false
    |some i=>IS (c.acts.getD i Al).kind:=by
   unfold FT;rw[if_neg (fun h=>h.1 h6)]
   cases Bl c.acts a.object<;>simp[h6]
  rw[ho];cases hx:Bl c.acts a.object with
  |none=>
   rw[hx]at k;obtain⟨id,acts,keys,prev,gen,fork⟩:=c;refine Ah [223,224,225] [] func134 ?_;refine Ab (an @n6 @q6) ?_;refine cp k ?_;refine run ?_;exact Ad
  |some i=>
   rw[hx]at k;change AC _ _ _ _ (.tup [.it .i64 ((i:Nat):Int),.bo true]) _ at k;have hi:=Oc _ _ _ hx;have hg:c.acts[i]? = some c.acts[i]:=List.getElem?_eq_getElem hi
   have hgd:c.acts.getD i Al=c.acts[i]:=by rw[List.getD_eq_getElem?_getD,hg];rfl
   show AC _ _ _ _ (.bo (IS (c.acts.getD i Al).kind)) _
   rw[hgd];have k2:=ZgS c.acts[i].kind;obtain⟨id,acts,keys,prev,gen,fork⟩:=c;simp only at hg k2 hsz hi hl ⊢
   generalize acts[i]=b at *;refine Ah [223,224,225] [] func134 ?_;refine Ab (an @n6 @q6) ?_;refine cp k ?_;refine Ab (A4 @n6 @q6 @hg @hsz) ?_;refine cp k2 ?_;refine run ?_;exact Ad
 have q6:(a.kind==6)=false:=beq_eq_false_iff_ne.2 h6;have n6:(a.kind !=6)=true:=C6 h6;by_cases h13:a.kind=13∨a.kind=14
 ·have ho:FT c a=match Bl c.acts a.object with
    |none=>false
    |some i=>Cx (c.acts.getD i Al).kind:=by
   unfold FT;rw[if_neg (fun h=>by rcases h13 with h13|h13<;>simp[h13]at h)]
   cases Bl c.acts a.object<;>simp[h6]
  rw[ho];have q13:(a.kind !=13)=false∨((a.kind !=13)=true∧(a.kind !=14)=false):=by
   rcases h13 with h|h
   ·exact .inl (Df h)
   ·exact .inr ⟨by rw[h];rfl,Df h⟩
  cases hx:Bl c.acts a.object with
  | none=>
   rw[hx]at k;obtain⟨id,acts,keys,prev,gen,fork⟩:=c;refine Ah [223,224,225] [] func134 ?_;rcases q13 with q13|⟨q13,q14⟩
   ·refine Ab (A3 @n6 @q6 @q13) ?_
    refine cp k ?_;refine run ?_;exact Ad
   ·refine Ab (A4 @n6 @q6 @q13 @q14) ?_
    refine cp k ?_;refine run ?_;exact Ad
  | some i=>
   rw[hx]at k;change AC _ _ _ _ (.tup [.it .i64 ((i:Nat):Int),.bo true]) _ at k;have hi:=Oc _ _ _ hx;have hg:c.acts[i]? = some c.acts[i]:=List.getElem?_eq_getElem hi
   have hgd:c.acts.getD i Al=c.acts[i]:=by rw[List.getD_eq_getElem?_getD,hg];rfl
   show AC _ _ _ _ (.bo (Cx (c.acts.getD i Al).kind)) _
   rw[hgd];have k2:=V3 c.acts[i].kind;obtain⟨id,acts,keys,prev,gen,fork⟩:=c;simp only at hg k2 hsz hi hl ⊢
   generalize acts[i]=b at *;refine Ah [223,224,225] [] func134 ?_;rcases q13 with q13|⟨q13,q14⟩
   ·refine Ab (A3 @n6 @q6 @q13) ?_
    refine cp k ?_;refine Ab (A4 @n6 @q6 @hg @hsz) ?_;refine cp k2 ?_;refine run ?_;exact Ad
   ·refine Ab (A4 @n6 @q6 @q13 @q14) ?_
    refine cp k ?_;refine Ab (A4 @n6 @q6 @hg @hsz) ?_;refine cp k2 ?_;refine run ?_;exact Ad
 ·have q13:(a.kind !=13)=true:=C6 (fun h=>h13 (.inl h))
  have q14:(a.kind !=14)=true:=C6 (fun h=>h13 (.inr h))
  have ho:FT c a=true:=by
   unfold FT;rw[if_pos ⟨h6,fun h=>h13 (.inl h),fun h=>h13 (.inr h)⟩]
  rw[ho];obtain⟨id,acts,keys,prev,gen,fork⟩:=c;refine Ah [223,224,225] [] func134 ?_;refine Ab (A4 @n6 @q6 @q13 @q14) ?_;exact Ad
theorem Q9(c:Chn)(a:Ac.Act)(hl:c.acts.length≤1000)(hr:Rt c.acts)(hz:Sz a):AC prog 66 [AG c,Am a] [] (.bo (Bh c a)) []:=by
 have k1:=Ih a hz;have k2:=Zg8 c a hl hr;obtain⟨id,acts,keys,prev,gen,fork⟩:=c;simp only at hl hr
 cases h1:Ac.right a with
 |false=>
  rw[h1]at k1;have hf:Bh ⟨id,acts,keys,prev,gen,fork⟩ a=false:=by unfold Bh;rw[h1];simp
  rw[hf];refine Ah [63,134] [] func66 ?_;refine run ?_;refine cp k1 ?_;refine run ?_;exact Ad
 | true=>
  rw[h1]at k1;by_cases h2:a.author=id
  ·have q2:(a.author==id)=true:=beq_iff_eq.2 h2
   by_cases h3:a.seq=acts.length
   ·have q3:(a.seq==(acts.length:Int))=true:=beq_iff_eq.2 h3
    by_cases h4:a.prev=prev
    ·have q4:(a.prev==prev)=true:=beq_iff_eq.2 h4
     have hf:Bh ⟨id,acts,keys,prev,gen,fork⟩ a=(decide ((a.kind=0)↔(acts.length=0))&&FT ⟨id,acts,keys,prev,gen,fork⟩ a):=by unfold Bh;simp[h1,h2,h3,h4]
     by_cases h5:a.kind=0
     ·have q5:(a.kind==0)=true:=beq_iff_eq.2 h5
      by_cases h6:acts.length=0
      ·have q6:((acts.length:Int)==0)=true:=beq_iff_eq.2 (by omega)
       rw[hf,decide_eq_true ⟨fun _=>h6,fun _=>h5⟩,Bool.true_and]
       refine Ah [63,134] [] func66 ?_;refine run ?_;refine cp k1 ?_;refine Ab (A5 @q2 @q3 @q4 @q5 @q6) ?_;refine cp k2 ?_;refine run ?_;exact Ad
      ·have q6:((acts.length:Int)==0)=false:=beq_eq_false_iff_ne.2 (by omega)
       rw[hf,decide_eq_false (fun h=>h6 (h.1 h5)),Bool.false_and]
       refine Ah [63,134] [] func66 ?_;refine run ?_;refine cp k1 ?_;refine Ab (A5 @q2 @q3 @q4 @q5 @q6) ?_;exact Ad
     ·have q5:(a.kind==0)=false:=beq_eq_false_iff_ne.2 h5
      by_cases h6:acts.length=0
      ·have q6:((acts.length:Int)==0)=true:=beq_iff_eq.2 (by omega)
       rw[hf,decide_eq_false (fun h=>h5 (h.2 h6)),Bool.false_and]
       refine Ah [63,134] [] func66 ?_;refine run ?_;refine cp k1 ?_;refine Ab (A5 @q2 @q3 @q4 @q5 @q6) ?_;exact Ad
      ·have q6:((acts.length:Int)==0)=false:=beq_eq_false_iff_ne.2 (by omega)
       rw[hf,decide_eq_true ⟨fun h=>absurd h h5,fun h=>absurd h h6⟩,Bool.true_and]
       refine Ah [63,134] [] func66 ?_;refine run ?_;refine cp k1 ?_;refine Ab (A5 @q2 @q3 @q4 @q5 @q6) ?_;refine cp k2 ?_;refine run ?_;exact Ad
    ·have q4:(a.prev==prev)=false:=beq_eq_false_iff_ne.2 h4
     have hf:Bh ⟨id,acts,keys,prev,gen,fork⟩ a=false:=by unfold Bh;simp[h4]
     rw[hf];refine Ah [63,134] [] func66 ?_;refine run ?_;refine cp k1 ?_;refine Ab (A3 @q2 @q3 @q4) ?_;exact Ad
   ·have q3:(a.seq==(acts.length:Int))=false:=beq_eq_false_iff_ne.2 h3
    have hf:Bh ⟨id,acts,keys,prev,gen,fork⟩ a=false:=by unfold Bh;simp[h3]
    rw[hf];refine Ah [63,134] [] func66 ?_;refine run ?_;refine cp k1 ?_;refine Ab (an @q2 @q3) ?_;exact Ad
  ·have q2:(a.author==id)=false:=beq_eq_false_iff_ne.2 h2
   have hf:Bh ⟨id,acts,keys,prev,gen,fork⟩ a=false:=by unfold Bh;simp[h2]
   rw[hf];refine Ah [63,134] [] func66 ?_;refine run ?_;refine cp k1 ?_;refine Ab @q2 ?_;exact Ad
end Pe
end
end Go.Proofs.YtipfggegddlgdaaGreatDoor
