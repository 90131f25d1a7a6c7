import Derived.Test.YtchpmmjmimaigaaGreatDoorKh21
set_option linter.unusedSectionVars false
set_option linter.unusedVariables false
set_option linter.unusedSimpArgs false
namespace Go.Proofs.YtchpmmjmimaigaaGreatDoor
section
namespace Pe
open Tryz
open Go Go.RowKit Co Sg Ac
set_option maxRecDepth 100000
set_option maxHeartbeats 4000000
theorem Zfn(n:Int):pub n=(decide (1≤n)&&decide (n<2305843009213693951)):=by
 unfold pub wi;rw[show decide (n≤2305843009213693950)=decide (n<2305843009213693951) by rw[Bool.eq_iff_iff];simp only[decide_eq_true_eq];omega]
theorem Nr(n:Int):AC prog 294 [.it .i64 n] [] (.bo (pub n)) []:=by
 refine Ai [] [] func294 ?_;rw[Zfn];by_cases h:1≤n
 ·rw[decide_eq_true h]
  refine run ?_;exact Ad
 ·rw[decide_eq_false h]
  refine run ?_;exact Ad
theorem SQ(b:Box):AC prog 345 [Ko b] [] (.bo (EX b)) []:=by
 refine Ai [] [] func345 ?_;unfold EX;rw[JM];by_cases h1:b.nonce.length=32
 ·rw[decide_eq_true h1]
  by_cases h2:b.tag.length=16
  ·rw[decide_eq_true h2]
   refine run ?_;exact Ad
  ·rw[decide_eq_false h2]
   refine run ?_;exact Ad
 ·rw[decide_eq_false h1]
  refine run ?_;exact Ad
theorem Yl(b:Box):AC prog 344 [Ko b] [] (.bo (decide (b=Cd))) []:=by
 refine Ai [] [] func344 ?_;rw[TC];cases h1:(b.nonce==[])with
 |false=>
  refine Aa @h1 ?_;exact Ad
 | true=>
  cases h2:(b.data==[])with
  |false=>
   refine Aa (an @h1 @h2) ?_;exact Ad
  |true=>
   refine Aa (an @h1 @h2) ?_;exact Ad
theorem XY(a:Ac.Act)(hw:a.wraps.length≤140737488355328):AC prog 300 [Am a] [] (.bo (FD a)) []:=by
 refine Ai [294,345] [] func300 ?_;unfold FD;have hsz:AH 5 (a.wraps.map Bo)=true:=BM 5 Bo (fun _=>rfl) _
 refine run ?_;refine Bn (fun m e S=>e 1=.ptr 0 0 ∧ ∃(k:Nat) (T:Ae),e 3=.it .i64 (k:Int)∧S=.cells (P3 a)::T∧k≤a.wraps.length∧(∀j (h:j<a.wraps.length),j<k→CQ a.wraps[j]=true)∧m=a.wraps.length-k) (a.wraps.length)
  ⟨Ab,0,[],Ab,rfl,by omega,fun j _ h=>absurd h (Nat.not_lt_zero _),rfl⟩ ?_
 rintro m e S ⟨s1,k,T,s3,rfl,hk,hall,rfl⟩
 by_cases hlt:k<a.wraps.length
 rotate_left
 ·obtain rfl:k=a.wraps.length:=by omega
  have h1:a.wraps.all CQ=true:=List.all_eq_true.2 fun x hx=>by
   obtain⟨j,hj,rfl⟩:=List.getElem_of_mem hx;exact hall j hj hj
  have h2:decide (a.wraps.length=a.to.length)=((a.wraps.length:Int)==(a.to.length:Int)):=by
   rw[Bool.eq_iff_iff];simp only[decide_eq_true_eq,beq_iff_eq];omega
  rw[h1,h2];have hx:¬((a.wraps.length:Nat):Int)<(a.wraps.length:Int):=by omega
  refine Aa (A3 @s1 @s3 @hx) ?_;exact Ad
 have hg:a.wraps[k]? = some a.wraps[k]:=List.getElem?_eq_getElem hlt
 have hbad:CQ a.wraps[k]=false→a.wraps.all CQ=false:=fun h=>List.all_eq_false.2 ⟨_,List.getElem_mem hlt,by simp[h]⟩
 have hnext:CQ a.wraps[k]=true → ∀j (h:j<a.wraps.length),j<k+1→CQ a.wraps[j]=true:=fun hb j h hj=>by
  by_cases e:j=k
  ·subst e;exact hb
  ·exact hall j h (by omega)
 generalize a.wraps[k]=x at *;have hT1:∀y:SObj,(T++[y])[T.length]? = some y:=fun y=>by simp
 have hT2:∀y z:SObj,(T++[y]).set T.length z=T++[z]:=fun y z=>by simp
 have hwx:CQ x=(pub x.to&&pub x.eph&&EX x.box):=rfl;rw[hwx]at hbad hnext;refine Aa (A6 @s1 @s3 @hg @hsz @hT1 @hT2) ?_;refine cp (Nr x.to) ?_;cases h1:pub x.to with
 |false=>
  rw[h1]at hbad;rw[hbad rfl];refine Aa (A4 @s1 @s3 @hT1 @hT2) ?_;exact Ad
 | true=>
  refine Aa (A4 @s1 @s3 @hT1 @hT2) ?_;refine cp (Nr x.eph) ?_;cases h2:pub x.eph with
  |false=>
   rw[h1,h2]at hbad;rw[hbad rfl];refine Aa (A4 @s1 @s3 @hT1 @hT2) ?_;exact Ad
  | true=>
   refine Aa (A4 @s1 @s3 @hT1 @hT2) ?_;refine cp (SQ x.box) ?_;cases h3:EX x.box with
   |false=>
    rw[h1,h2,h3]at hbad;rw[hbad rfl];refine Aa (A4 @s1 @s3 @hT1 @hT2) ?_;exact Ad
   |true=>
    refine Aa (A4 @s1 @s3 @hT1 @hT2) ?_;exact As (a.wraps.length-(k+1)) (by omega) ⟨Ab,k+1,T++[.cells (Bo x).cells],Ab,rfl,by omega,hnext (by rw[h1,h2,h3];rfl),rfl⟩
def Il(a:Ac.Act):Bool:=if a.scope=2 then Cq a.group else decide (a.group=[])
theorem Yj(a:Ac.Act)(h:a.group.length≤140737488355328):AC prog 299 [Am a] [] (.bo (Il a)) []:=by
 refine Ai [295] [] func299 ?_;unfold Il;have hn:=GR;by_cases h2:a.scope=2
 ·rw[if_pos h2]
  refine run ?_;refine cp (Jd a.group h) ?_;refine run ?_;exact Ad
 ·rw[if_neg h2]
  refine Aa @hn ?_;exact Ad
def TJ(a:Ac.Act):Bool:=CI a.to&&Il a&&(if a.scope=0 then decide (a.epoch=0)&&De a.text&&decide (a.body=Cd)
 else if a.scope=3 then wi a.epoch 0 1073741824&&decide (a.text=[])&&EX a.body
 else if a.scope=1∨a.scope=2 then wi a.epoch 0 1073741824&&decide (a.text=[])&&EX a.body&&decide (a.to=[])else false)
theorem Zkb(a:Ac.Act):TJ a=ES a:=by
 unfold TJ ES Il GM;by_cases h0:a.scope=0
 ·simp only[h0,if_true,show ¬(0:Int)=2 by decide,if_false]
  rw[Bool.eq_iff_iff];simp only[Bool.and_eq_true];constructor<;>(intro h;simp only[h,and_self])
 by_cases h3:a.scope=3
 ·simp only[h3,show ¬(3:Int)=0 by decide,show ¬(3:Int)=2 by decide,if_false,if_true,or_true,decide_true,Bool.or_true,Bool.true_and]
  rw[Bool.eq_iff_iff];simp only[Bool.and_eq_true];constructor<;>(intro h;simp only[h,and_self])
 by_cases h1:a.scope=1
 ·simp only[h1,show ¬(1:Int)=0 by decide,show ¬(1:Int)=2 by decide,show ¬(1:Int)=3 by decide,if_false,if_true,true_or,decide_false,Bool.or_false]
  rw[Bool.eq_iff_iff];simp only[Bool.and_eq_true];constructor<;>(intro h;simp only[h,and_self])
 by_cases h2:a.scope=2
 ·simp only[h2,show ¬(2:Int)=0 by decide,show ¬(2:Int)=3 by decide,if_false,if_true,or_true,decide_false,Bool.or_false]
  rw[Bool.eq_iff_iff];simp only[Bool.and_eq_true];constructor<;>(intro h;simp only[h,and_self])
 ·simp only[if_neg h0,if_neg h2,if_neg h3,if_neg (show ¬(a.scope=1∨a.scope=2)from fun h=>h.elim h1 h2),if_neg (show ¬(a.scope=1∨a.scope=3)from fun h=>h.elim h1 h3),Bool.and_false,Bool.false_and]
theorem SR(a:Ac.Act)(h:Sz a):AC prog 296 [Am a] [] (.bo (ES a)) []:=by
 rw[←Zkb];refine Ai [298,299,344,345] [] func296 ?_;unfold TJ;have hn:=GR;have hl:=LY a.to;have hs:=JM a.text;refine run ?_;refine cp (Px a.to h.tos h.to) ?_;cases c1:CI a.to with
 |false=>
  refine run ?_;exact Ad
 |true=>
 refine run ?_;refine cp (Yj a h.group) ?_;cases c2:Il a with
 |false=>
  refine run ?_;exact Ad
 |true=>
 by_cases h0:a.scope=0
 ·rw[if_pos h0]
  by_cases e1:a.epoch=0
  rotate_left
  ·rw[decide_eq_false e1]
   refine run ?_;exact Ad
  rw[decide_eq_true e1,hs];cases e2:decide ((a.text.length:Int)≤500)with
  |false=>
   refine Aa @e2 ?_;exact Ad
  |true=>
  refine Aa @e2 ?_;refine cp (Yl a.body) ?_;refine run ?_;exact Ad
 rw[if_neg h0];by_cases h3:a.scope=3
 ·rw[if_pos h3]
  by_cases e1:0≤a.epoch
  rotate_left
  ·rw[show wi a.epoch 0 1073741824=false by unfold wi;rw[decide_eq_false e1];rfl]
   refine run ?_;exact Ad
  by_cases e2:a.epoch≤1073741824
  rotate_left
  ·rw[show wi a.epoch 0 1073741824=false by unfold wi;rw[decide_eq_false e2,Bool.and_false]]
   refine run ?_;exact Ad
  rw[show wi a.epoch 0 1073741824=true from Ch.2 ⟨e1,e2⟩]
  cases e3:decide (a.text=[])with
  |false=>
   refine Aa (an @hn @e3) ?_;exact Ad
  |true=>
  refine Aa (an @hn @e3) ?_;refine cp (SQ a.body) ?_;refine run ?_;exact Ad
 rw[if_neg h3];by_cases h12:a.scope=1∨a.scope=2
 rotate_left
 ·rw[if_neg h12]
  have n1:¬a.scope=1:=fun h=>h12 (.inl h)
  have n2:¬a.scope=2:=fun h=>h12 (.inr h)
  refine run ?_;exact Ad
 rw[if_pos h12];rcases h12 with h12|h12
 iterate 2
  ·skip
   by_cases e1:0≤a.epoch
   rotate_left
   ·rw[show wi a.epoch 0 1073741824=false by unfold wi;rw[decide_eq_false e1];rfl]
    refine run ?_;exact Ad
   by_cases e2:a.epoch≤1073741824
   rotate_left
   ·rw[show wi a.epoch 0 1073741824=false by unfold wi;rw[decide_eq_false e2,Bool.and_false]]
    refine run ?_;exact Ad
   rw[show wi a.epoch 0 1073741824=true from Ch.2 ⟨e1,e2⟩]
   cases e3:decide (a.text=[])with
   |false=>
    refine Aa (an @hn @e3) ?_;exact Ad
   |true=>
   refine Aa (an @hn @e3) ?_;refine cp (SQ a.body) ?_;cases e4:EX a.body with
   |false=>
    refine run ?_;exact Ad
   |true=>
   refine Aa @hl ?_;exact Ad
def CM(a:Ac.Act):Ac.Act:={ a with scope:=0,group:=[],to:=[],text:=[],body:=Cd,epoch:=0 }
theorem Jf(a:Ac.Act):AC prog 297 [Am a] [] (Am (CM a)) []:=by
 refine Ai [] [] func297 ?_;refine run ?_;exact AQ
def Bw(a:Ac.Act):Bool:=decide (a.object=[])&&decide (a.target=[])&&decide (a.scope=0)&&decide (a.group=[])&&decide (a.to=[])&&decide (a.text=[])&&decide (a.body=Cd)&&decide (a.epoch=0)&&decide (a.wraps=[])&&decide (a.n=0)&&decide (a.m=0)
theorem Ee(a:Ac.Act):AC prog 301 [Am a] [] (.bo (Bw a)) []:=by
 refine Ai [344] [] func301 ?_;unfold Bw;have hn:=GR;have hl1:=LY a.to;have hl2:=LY a.wraps;cases c0:decide (a.object=[])with
 |false=>
  refine Aa (A4 @hn @hl1 @hl2 @c0) ?_;exact Ad
 |true=>
 cases c1:decide (a.target=[])with
 |false=>
  refine Aa (A5 @hn @hl1 @hl2 @c0 @c1) ?_;exact Ad
 |true=>
 by_cases p2:a.scope=0
 rotate_left
 ·rw[decide_eq_false p2]
  refine Aa (A5 @hn @hl1 @hl2 @c0 @c1) ?_;exact Ad
 rw[decide_eq_true p2];cases c3:decide (a.group=[])with
 |false=>
  refine Aa (A6 @hn @hl1 @hl2 @c0 @c1 @c3) ?_;exact Ad
 |true=>
 cases c4:decide (a.to=[])with
 |false=>
  refine Aa (A7 @hn @hl1 @hl2 @c0 @c1 @c3 @c4) ?_;exact Ad
 |true=>
 cases c5:decide (a.text=[])with
 |false=>
  refine Aa (A8 @hn @hl1 @hl2 @c0 @c1 @c3 @c4 @c5) ?_;exact Ad
 |true=>
 refine Aa (A8 @hn @hl1 @hl2 @c0 @c1 @c3 @c4 @c5) ?_;refine cp (Yl a.body) ?_;cases c6:decide (a.body=Cd)with
 |false=>
  refine run ?_;exact Ad
 |true=>
 by_cases p7:a.epoch=0
 rotate_left
 ·rw[decide_eq_false p7]
  refine Aa (A8 @hn @hl1 @hl2 @c0 @c1 @c3 @c4 @c5) ?_;exact Ad
 rw[decide_eq_true p7];cases c8:decide (a.wraps=[])with
 |false=>
  refine Aa (A9 @hn @hl1 @hl2 @c0 @c1 @c3 @c4 @c5 @c8) ?_;exact Ad
 |true=>
 by_cases p9:a.n=0
 rotate_left
 ·rw[decide_eq_false p9]
  refine Aa (A9 @hn @hl1 @hl2 @c0 @c1 @c3 @c4 @c5 @c8) ?_;exact Ad
 rw[decide_eq_true p9];by_cases p10:a.m=0
 rotate_left
 ·rw[decide_eq_false p10]
  refine Aa (A9 @hn @hl1 @hl2 @c0 @c1 @c3 @c4 @c5 @c8) ?_;exact Ad
 rw[decide_eq_true p10];refine Aa (A9 @hn @hl1 @hl2 @c0 @c1 @c3 @c4 @c5 @c8) ?_;exact Ad
def Bj(a:Ac.Act):Bool:=match F7 a.kind with
 |none=>false
 |some r=>out a r&&r.ok a
theorem ZeF(a:Ac.Act):Ac.right a=(Bg a.author&&C5 a&&wi a.time 0 1099511627776&&Bu a.sig&&Bj a):=by
 unfold Ac.right Bj;cases h:F7 a.kind with
 |none=>rfl
 |some r=>
  have e:decide (Go.bits .andNot .i64 (JH a) r.mask=0)=out a r:=WZ r _ _ _ _ _ _ _ _ _ _ _;simp only[e]
theorem EH(m:Int):wi m 0 19=(decide (0≤m)&&decide (m<20)):=by
 unfold wi;rw[show decide (m≤19)=decide (m<20) by rw[Bool.eq_iff_iff];simp only[decide_eq_true_eq];omega]
theorem EI(a:Ac.Act):(decide (1≤a.scope)&&decide (a.scope≤3)&&Il a)=GM a.scope a.group:=by
 unfold Il GM;by_cases h2:a.scope=2
 ·rw[if_pos h2,if_pos h2,h2];rfl
 rw[if_neg h2,if_neg h2];by_cases h13:a.scope=1∨a.scope=3
 ·rw[if_pos h13,decide_eq_true (show 1≤a.scope by omega),decide_eq_true (show a.scope≤3 by omega)];rfl
 ·rw[if_neg h13]
  by_cases h1:1≤a.scope
  ·rw[decide_eq_false (show ¬a.scope≤3 by omega),Bool.and_false];rfl
  ·rw[decide_eq_false h1];rfl
theorem Yk(a:Ac.Act)(h:Sz a):AC prog 208 [Am a] [] (.bo (Bj a)) []:=by
 refine Ai [294,295,296,297,207,298,299,300,301] [] func208 ?_;have hn:=GR;by_cases hr:0≤a.kind∧a.kind≤23
 rotate_left
 ·have hv:Bj a=false:=by
   unfold Bj;rw[Zel (by omega)]
  rw[hv];refine run ?_;exact Ad
 have hks:a.kind=0∨a.kind=1∨a.kind=2∨a.kind=3∨a.kind=4∨a.kind=5∨a.kind=6∨a.kind=7∨a.kind=8∨a.kind=9∨a.kind=10∨a.kind=11∨a.kind=12∨a.kind=13∨a.kind=14∨a.kind=15∨a.kind=16∨a.kind=17∨a.kind=18∨a.kind=19∨a.kind=20∨a.kind=21∨a.kind=22∨a.kind=23:=by omega
 rcases hks with hk|hk|hk|hk|hk|hk|hk|hk|hk|hk|hk|hk|hk|hk|hk|hk|hk|hk|hk|hk|hk|hk|hk|hk
 ·have hv:Bj a=(pub a.n&&decide (0≤a.m)&&decide (a.m<20)&&Cq a.text&&Bw { a with text:=[],n:=0,m:=0 }):=by
   unfold Bj;rw[hk];show(out a .begin&&Ru.ok a .begin)=_
   simp only[out,Dq,Ru.ok,home,Ac.grant,Ac.setup,←EI,EH,Bw,CM,decide_true,Bool.and_true,Bool.true_and];ac_rfl
  rw[hv];refine Aa @hn ?_;refine cp (Nr a.n) ?_;cases c0:pub a.n with
  |false=>
   refine Aa @hn ?_;refine cp (Jd a.text h.text) ?_;refine Aa @hn ?_;exact Ad
  |true=>
  by_cases p1:0≤a.m
  rotate_left
  ·rw[decide_eq_false p1]
   refine Aa @hn ?_;refine cp (Jd a.text h.text) ?_;refine Aa @hn ?_;exact Ad
  rw[decide_eq_true p1];by_cases p2:a.m<20
  rotate_left
  ·rw[decide_eq_false p2]
   refine Aa @hn ?_;refine cp (Jd a.text h.text) ?_;refine Aa @hn ?_;exact Ad
  rw[decide_eq_true p2];refine Aa @hn ?_;refine cp (Jd a.text h.text) ?_;cases c3:Cq a.text with
  |false=>
   refine Aa @hn ?_;exact Ad
  |true=>
  refine Aa @hn ?_;refine cp (Ee { a with text:=[],n:=0,m:=0 }) ?_
  refine Aa @hn ?_;exact Ad
 ·have hv:Bj a=(ES a&&Bw (CM a)):=by
   unfold Bj;rw[hk];show(out a .post&&Ru.ok a .post)=_
   simp only[out,Dq,Ru.ok,home,Ac.grant,Ac.setup,←EI,EH,wi,Bw,CM,decide_true,Bool.and_true,Bool.true_and];ac_rfl
  rw[hv];refine Aa @hn ?_;refine cp (SR a h) ?_;cases c0:ES a with
  |false=>
   refine Aa @hn ?_;refine cp (Jf a) ?_;refine Aa @hn ?_;exact Ad
  |true=>
  refine Aa @hn ?_;refine cp (Jf a) ?_;refine Aa @hn ?_;refine cp (Ee (CM a)) ?_;refine Aa @hn ?_;exact Ad
 iterate 2
  ·have hv:Bj a=(ES a&&dig a.object&&Bw { CM a with object:=[] }):=by
    unfold Bj;rw[hk];show(out a .reply&&Ru.ok a .reply)=_
    simp only[out,Dq,Ru.ok,home,Ac.grant,Ac.setup,←EI,EH,wi,Bw,CM,decide_true,Bool.and_true,Bool.true_and];ac_rfl
   rw[hv];refine Aa @hn ?_;refine cp (SR a h) ?_;cases c0:ES a with
   |false=>
    refine Aa @hn ?_;refine cp (Jf a) ?_;refine Aa @hn ?_;exact Ad
   |true=>
   rw[Gt];cases c1:((a.object.length:Int)==32)with
   |false=>
    refine Aa (an @hn @c1) ?_;refine cp (Jf a) ?_;refine Aa (an @hn @c1) ?_;exact Ad
   |true=>
   refine Aa (an @hn @c1) ?_;refine cp (Jf a) ?_;refine Aa (an @hn @c1) ?_;refine cp (Ee { CM a with object:=[] }) ?_
   refine Aa (an @hn @c1) ?_;exact Ad
 iterate 3
  ·have hv:Bj a=(dig a.object&&Bw { a with object:=[] }):=by
    unfold Bj;rw[hk];show(out a .about&&Ru.ok a .about)=_
    simp only[out,Dq,Ru.ok,home,Ac.grant,Ac.setup,←EI,EH,wi,Bw,CM,decide_true,Bool.and_true,Bool.true_and];ac_rfl
   rw[hv];rw[Gt];cases c0:((a.object.length:Int)==32)with
   |false=>
    refine Aa (an @hn @c0) ?_;exact Ad
   |true=>
   refine Aa (an @hn @c0) ?_;refine cp (Ee { a with object:=[] }) ?_
   refine Aa (an @hn @c0) ?_;exact Ad
 iterate 5
  ·have hv:Bj a=(Bg a.target&&Bw { a with target:=[] }):=by
    unfold Bj;rw[hk];show(out a .tie&&Ru.ok a .tie)=_
    simp only[out,Dq,Ru.ok,home,Ac.grant,Ac.setup,←EI,EH,wi,Bw,CM,decide_true,Bool.and_true,Bool.true_and];ac_rfl
   rw[hv];refine Aa @hn ?_;refine cp (Mf a.target h.target) ?_;cases c0:Bg a.target with
   |false=>
    refine Aa @hn ?_;exact Ad
   |true=>
   refine Aa @hn ?_;refine cp (Ee { a with target:=[] }) ?_
   refine Aa @hn ?_;exact Ad
 ·have hv:Bj a=(dig a.object&&De a.text&&Bw { a with object:=[],text:=[] }):=by
   unfold Bj;rw[hk];show(out a .reason&&Ru.ok a .reason)=_
   simp only[out,Dq,Ru.ok,home,Ac.grant,Ac.setup,←EI,EH,wi,Bw,CM,decide_true,Bool.and_true,Bool.true_and];ac_rfl
  rw[hv];rw[Gt];cases c0:((a.object.length:Int)==32)with
  |false=>
   refine Aa (an @hn @c0) ?_;exact Ad
  |true=>
  rw[JM];cases c1:decide ((a.text.length:Int)≤500)with
  |false=>
   refine Aa (A3 @hn @c0 @c1) ?_;exact Ad
  |true=>
  refine Aa (A3 @hn @c0 @c1) ?_;refine cp (Ee { a with object:=[],text:=[] }) ?_
  refine Aa (A3 @hn @c0 @c1) ?_;exact Ad
 ·have hv:Bj a=(dig a.object&&Bw { a with object:=[] }):=by
   unfold Bj;rw[hk];show(out a .about&&Ru.ok a .about)=_
   simp only[out,Dq,Ru.ok,home,Ac.grant,Ac.setup,←EI,EH,wi,Bw,CM,decide_true,Bool.and_true,Bool.true_and];ac_rfl
  rw[hv];rw[Gt];cases c0:((a.object.length:Int)==32)with
  |false=>
   refine Aa (an @hn @c0) ?_;exact Ad
  |true=>
  refine Aa (an @hn @c0) ?_;refine cp (Ee { a with object:=[] }) ?_
  refine Aa (an @hn @c0) ?_;exact Ad
 ·have hv:Bj a=(ES a&&dig a.object&&Bw { CM a with object:=[] }):=by
   unfold Bj;rw[hk];show(out a .reply&&Ru.ok a .reply)=_
   simp only[out,Dq,Ru.ok,home,Ac.grant,Ac.setup,←EI,EH,wi,Bw,CM,decide_true,Bool.and_true,Bool.true_and];ac_rfl
  rw[hv];refine Aa @hn ?_;refine cp (SR a h) ?_;cases c0:ES a with
  |false=>
   refine Aa @hn ?_;refine cp (Jf a) ?_;refine Aa @hn ?_;exact Ad
  |true=>
  rw[Gt];cases c1:((a.object.length:Int)==32)with
  |false=>
   refine Aa (an @hn @c1) ?_;refine cp (Jf a) ?_;refine Aa (an @hn @c1) ?_;exact Ad
  |true=>
  refine Aa (an @hn @c1) ?_;refine cp (Jf a) ?_;refine Aa (an @hn @c1) ?_;refine cp (Ee { CM a with object:=[] }) ?_
  refine Aa (an @hn @c1) ?_;exact Ad
 ·have hv:Bj a=(CI a.to&&Cq a.group&&Bw { a with group:=[],to:=[] }):=by
   unfold Bj;rw[hk];show(out a .circle&&Ru.ok a .circle)=_
   simp only[out,Dq,Ru.ok,home,Ac.grant,Ac.setup,←EI,EH,wi,Bw,CM,decide_true,Bool.and_true,Bool.true_and];ac_rfl
  rw[hv];refine Aa @hn ?_;refine cp (Px a.to h.tos h.to) ?_;cases c0:CI a.to with
  |false=>
   refine Aa @hn ?_;exact Ad
  |true=>
  refine Aa @hn ?_;refine cp (Jd a.group h.group) ?_;cases c1:Cq a.group with
  |false=>
   refine Aa @hn ?_;exact Ad
  |true=>
  refine Aa @hn ?_;refine cp (Ee { a with group:=[],to:=[] }) ?_
  refine Aa @hn ?_;exact Ad
 ·have hv:Bj a=(CI a.to&&decide (1≤a.scope)&&decide (a.scope≤3)&&Il a&&decide (0≤a.epoch)&&decide (a.epoch≤1073741824)&&FD a&&Bw { a with scope:=0,group:=[],to:=[],epoch:=0,wraps:=[] }):=by
   unfold Bj;rw[hk];show(out a .grant&&Ru.ok a .grant)=_
   simp only[out,Dq,Ru.ok,home,Ac.grant,Ac.setup,←EI,EH,wi,Bw,CM,decide_true,Bool.and_true,Bool.true_and];ac_rfl
  rw[hv];refine Aa @hn ?_;refine cp (Px a.to h.tos h.to) ?_;cases c0:CI a.to with
  |false=>
   refine Aa @hn ?_;exact Ad
  |true=>
  by_cases p1:1≤a.scope
  rotate_left
  ·rw[decide_eq_false p1]
   refine Aa @hn ?_;exact Ad
  rw[decide_eq_true p1];by_cases p2:a.scope≤3
  rotate_left
  ·rw[decide_eq_false p2]
   refine Aa @hn ?_;exact Ad
  rw[decide_eq_true p2];refine Aa @hn ?_;refine cp (Yj a h.group) ?_;cases c3:Il a with
  |false=>
   refine Aa @hn ?_;exact Ad
  |true=>
  by_cases p4:0≤a.epoch
  rotate_left
  ·rw[decide_eq_false p4]
   refine Aa @hn ?_;exact Ad
  rw[decide_eq_true p4];by_cases p5:a.epoch≤1073741824
  rotate_left
  ·rw[decide_eq_false p5]
   refine Aa @hn ?_;exact Ad
  rw[decide_eq_true p5];refine Aa @hn ?_;refine cp (XY a h.wraps) ?_;cases c6:FD a with
  |false=>
   refine Aa @hn ?_;exact Ad
  |true=>
  refine Aa @hn ?_;refine cp (Ee { a with scope:=0,group:=[],to:=[],epoch:=0,wraps:=[] }) ?_
  refine Aa @hn ?_;exact Ad
 ·by_cases ho:a.object=[]
  ·have hv:Bj a=(Cq a.text&&Bg a.target&&Bw { a with text:=[],object:=[],target:=[] }):=by
    unfold Bj;rw[hk];show(out a .label&&Ru.ok a .label)=_
    have hd:dig a.object=false:=by unfold dig;rw[ho];rfl
    simp only[out,Dq,Ru.ok,Ac.label,hd,ho,Bool.false_and,Bool.false_or,Bw,CM,decide_true,Bool.and_true,Bool.true_and];ac_rfl
   rw[hv];have hob:(a.object==[])=true:=by rw[ho];rfl
   refine Aa (an @hn @hob) ?_;refine cp (Jd a.text h.text) ?_;cases c0:Cq a.text with
   |false=>
    refine Aa (an @hn @hob) ?_;refine cp (Mf a.target h.target) ?_;refine Aa (an @hn @hob) ?_;exact Ad
   |true=>
   refine Aa (an @hn @hob) ?_;refine cp (Mf a.target h.target) ?_;cases c1:Bg a.target with
   |false=>
    refine Aa (an @hn @hob) ?_;exact Ad
   |true=>
   refine Aa (an @hn @hob) ?_;refine cp (Ee { a with text:=[],object:=[],target:=[] }) ?_
   refine Aa (an @hn @hob) ?_;exact Ad
  ·have hv:Bj a=(Cq a.text&&dig a.object&&decide (a.target=[])&&Bw { a with text:=[],object:=[],target:=[] }):=by
    unfold Bj;rw[hk];show(out a .label&&Ru.ok a .label)=_
    simp only[out,Dq,Ru.ok,Ac.label,decide_eq_false ho,Bool.and_false,Bool.or_false,Bw,CM,decide_true,Bool.and_true,Bool.true_and];ac_rfl
   rw[hv];have hob:(a.object==[])=false:=by simpa using ho
   refine Aa (an @hn @hob) ?_;refine cp (Jd a.text h.text) ?_;cases c0:Cq a.text with
   |false=>
    refine Aa (an @hn @hob) ?_;exact Ad
   |true=>
   rw[Gt];cases c1:((a.object.length:Int)==32)with
   |false=>
    refine Aa (A3 @hn @hob @c1) ?_;exact Ad
   |true=>
   cases c2:decide (a.target=[])with
   |false=>
    refine Aa (A4 @hn @hob @c1 @c2) ?_;exact Ad
   |true=>
   refine Aa (A4 @hn @hob @c1 @c2) ?_;refine cp (Ee { a with text:=[],object:=[],target:=[] }) ?_
   refine Aa (A4 @hn @hob @c1 @c2) ?_;exact Ad
 ·have hv:Bj a=(pub a.n&&decide (0≤a.m)&&decide (a.m<20)&&Bw { a with n:=0,m:=0 }):=by
   unfold Bj;rw[hk];show(out a .move&&Ru.ok a .move)=_
   simp only[out,Dq,Ru.ok,home,Ac.grant,Ac.setup,←EI,EH,Bw,CM,decide_true,Bool.and_true,Bool.true_and];ac_rfl
  rw[hv];refine Aa @hn ?_;refine cp (Nr a.n) ?_;cases c0:pub a.n with
  |false=>
   refine Aa @hn ?_;exact Ad
  |true=>
  by_cases p1:0≤a.m
  rotate_left
  ·rw[decide_eq_false p1]
   refine Aa @hn ?_;exact Ad
  rw[decide_eq_true p1];by_cases p2:a.m<20
  rotate_left
  ·rw[decide_eq_false p2]
   refine Aa @hn ?_;exact Ad
  rw[decide_eq_true p2];refine Aa @hn ?_;refine cp (Ee { a with n:=0,m:=0 }) ?_
  refine Aa @hn ?_;exact Ad
 ·have hv:Bj a=(CI a.to&&decide (0<a.to.length)&&FD a&&decide (1≤a.n)&&decide (a.n≤(a.to.length:Int))&&pub a.m&&Bw { a with to:=[],wraps:=[],n:=0,m:=0 }):=by
   unfold Bj;rw[hk];show(out a .setup&&Ru.ok a .setup)=_
   simp only[out,Dq,Ru.ok,home,Ac.grant,Ac.setup,←EI,EH,wi,Bw,CM,decide_true,Bool.and_true,Bool.true_and];ac_rfl
  rw[hv];refine Aa @hn ?_;refine cp (Px a.to h.tos h.to) ?_;cases c0:CI a.to with
  |false=>
   refine Aa @hn ?_;exact Ad
  |true=>
  by_cases p1:0<a.to.length
  rotate_left
  ·rw[decide_eq_false p1]
   refine Aa @hn ?_;exact Ad
  rw[decide_eq_true p1];refine Aa @hn ?_;refine cp (XY a h.wraps) ?_;cases c2:FD a with
  |false=>
   refine Aa @hn ?_;exact Ad
  |true=>
  by_cases p3:1≤a.n
  rotate_left
  ·rw[decide_eq_false p3]
   refine Aa @hn ?_;exact Ad
  rw[decide_eq_true p3];by_cases p4:a.n≤(a.to.length:Int)
  rotate_left
  ·rw[decide_eq_false p4]
   refine Aa @hn ?_;exact Ad
  rw[decide_eq_true p4];refine Aa @hn ?_;refine cp (Nr a.m) ?_;cases c5:pub a.m with
  |false=>
   refine Aa @hn ?_;exact Ad
  |true=>
  refine Aa @hn ?_;refine cp (Ee { a with to:=[],wraps:=[],n:=0,m:=0 }) ?_
  refine Aa @hn ?_;exact Ad
 ·have hv:Bj a=(dig a.object&&Bw { a with object:=[] }):=by
   unfold Bj;rw[hk];show(out a .about&&Ru.ok a .about)=_
   simp only[out,Dq,Ru.ok,home,Ac.grant,Ac.setup,←EI,EH,wi,Bw,CM,decide_true,Bool.and_true,Bool.true_and];ac_rfl
  rw[hv];rw[Gt];cases c0:((a.object.length:Int)==32)with
  |false=>
   refine Aa (an @hn @c0) ?_;exact Ad
  |true=>
  refine Aa (an @hn @c0) ?_;refine cp (Ee { a with object:=[] }) ?_
  refine Aa (an @hn @c0) ?_;exact Ad
 ·have hv:Bj a=(dig a.object&&De a.text&&Bw { a with object:=[],text:=[] }):=by
   unfold Bj;rw[hk];show(out a .reason&&Ru.ok a .reason)=_
   simp only[out,Dq,Ru.ok,home,Ac.grant,Ac.setup,←EI,EH,wi,Bw,CM,decide_true,Bool.and_true,Bool.true_and];ac_rfl
  rw[hv];rw[Gt];cases c0:((a.object.length:Int)==32)with
  |false=>
   refine Aa (an @hn @c0) ?_;exact Ad
  |true=>
  rw[JM];cases c1:decide ((a.text.length:Int)≤500)with
  |false=>
   refine Aa (A3 @hn @c0 @c1) ?_;exact Ad
  |true=>
  refine Aa (A3 @hn @c0 @c1) ?_;refine cp (Ee { a with object:=[],text:=[] }) ?_
  refine Aa (A3 @hn @c0 @c1) ?_;exact Ad
 ·have hv:Bj a=(dig a.object&&decide (0≤a.n)&&decide (a.n≤1)&&Bw { a with object:=[],n:=0 }):=by
   unfold Bj;rw[hk];show(out a .judge&&Ru.ok a .judge)=_
   simp only[out,Dq,Ru.ok,home,Ac.grant,Ac.setup,←EI,EH,wi,Bw,CM,decide_true,Bool.and_true,Bool.true_and];ac_rfl
  rw[hv];rw[Gt];cases c0:((a.object.length:Int)==32)with
  |false=>
   refine Aa (an @hn @c0) ?_;exact Ad
  |true=>
  by_cases p1:0≤a.n
  rotate_left
  ·rw[decide_eq_false p1]
   refine Aa (an @hn @c0) ?_;exact Ad
  rw[decide_eq_true p1];by_cases p2:a.n≤1
  rotate_left
  ·rw[decide_eq_false p2]
   refine Aa (an @hn @c0) ?_;exact Ad
  rw[decide_eq_true p2];refine Aa (an @hn @c0) ?_;refine cp (Ee { a with object:=[],n:=0 }) ?_
  refine Aa (an @hn @c0) ?_;exact Ad
 ·have hv:Bj a=(Bg a.target&&De a.text&&decide (0≤a.n)&&decide (a.n≤1099511627776)&&Bw { a with target:=[],text:=[],n:=0 }):=by
   unfold Bj;rw[hk];show(out a .list&&Ru.ok a .list)=_
   simp only[out,Dq,Ru.ok,home,Ac.grant,Ac.setup,←EI,EH,wi,Bw,CM,decide_true,Bool.and_true,Bool.true_and];ac_rfl
  rw[hv];refine Aa @hn ?_;refine cp (Mf a.target h.target) ?_;cases c0:Bg a.target with
  |false=>
   refine Aa @hn ?_;exact Ad
  |true=>
  rw[JM];cases c1:decide ((a.text.length:Int)≤500)with
  |false=>
   refine Aa (an @hn @c1) ?_;exact Ad
  |true=>
  by_cases p2:0≤a.n
  rotate_left
  ·rw[decide_eq_false p2]
   refine Aa (an @hn @c1) ?_;exact Ad
  rw[decide_eq_true p2];by_cases p3:a.n≤1099511627776
  rotate_left
  ·rw[decide_eq_false p3]
   refine Aa (an @hn @c1) ?_;exact Ad
  rw[decide_eq_true p3];refine Aa (an @hn @c1) ?_;refine cp (Ee { a with target:=[],text:=[],n:=0 }) ?_
  refine Aa (an @hn @c1) ?_;exact Ad
end Pe
end
section
namespace Pe
open Tryz
open Go Go.RowKit Co Sg Ac
set_option maxRecDepth 100000
set_option maxHeartbeats 4000000
theorem Np(a:Ac.Act)(h:Sz a):AC prog 125 [Am a] [] (.bo (Ac.right a)) []:=by
 refine Ai [207,208] [] func125 ?_;obtain⟨q,hq⟩:∃q,Ac.right a=q:=⟨_,rfl⟩
 rw[hq];rw[ZeF]at hq;have hn:=GR;refine run ?_;refine cp (Mf a.author h.author) ?_;cases c0:Bg a.author with
 |false=>
  obtain rfl:q=false:=by rw[←hq,c0];rfl
  refine run ?_;exact Ad
 |true=>
 by_cases s0:0≤a.seq
 rotate_left
 ·obtain rfl:q=false:=by
   rw[←hq];have hp:C5 a=false:=by unfold C5;split<;>simp[wi,dig]<;>omega
   rw[hp];simp
  refine Aa @hn ?_;exact Ad
 by_cases s1:a.seq≤1073741824
 rotate_left
 ·obtain rfl:q=false:=by
   rw[←hq];have hp:C5 a=false:=by unfold C5;split<;>simp[wi,dig]<;>omega
   rw[hp];simp
  refine Aa @hn ?_;exact Ad
 by_cases t0:0≤a.time
 rotate_left
 ·obtain rfl:q=false:=by
   rw[←hq];have hp:wi a.time 0 1099511627776=false:=by simp[wi];omega
   rw[hp];simp
  refine Aa @hn ?_;exact Ad
 by_cases t1:a.time≤1099511627776
 rotate_left
 ·obtain rfl:q=false:=by
   rw[←hq];have hp:wi a.time 0 1099511627776=false:=by simp[wi];omega
   rw[hp];simp
  refine Aa @hn ?_;exact Ad
 by_cases e0:0≤a.sig.e
 rotate_left
 ·obtain rfl:q=false:=by
   rw[←hq];have hp:Bu a.sig=false:=by simp[Bu,wi];omega
   rw[hp];simp
  refine Aa @hn ?_;exact Ad
 by_cases e1:a.sig.e<2305843009213693950
 rotate_left
 ·obtain rfl:q=false:=by
   rw[←hq];have hp:Bu a.sig=false:=by simp[Bu,wi];omega
   rw[hp];simp
  refine Aa @hn ?_;exact Ad
 by_cases f0:0≤a.sig.s
 rotate_left
 ·obtain rfl:q=false:=by
   rw[←hq];have hp:Bu a.sig=false:=by simp[Bu,wi];omega
   rw[hp];simp
  refine Aa @hn ?_;exact Ad
 by_cases f1:a.sig.s<2305843009213693950
 rotate_left
 ·obtain rfl:q=false:=by
   rw[←hq];have hp:Bu a.sig=false:=by simp[Bu,wi];omega
   rw[hp];simp
  refine Aa @hn ?_;exact Ad
 have htm:wi a.time 0 1099511627776=true:=Ch.2 ⟨t0,t1⟩;have hsg:Bu a.sig=true:=by simp[Bu,wi];omega
 by_cases z:a.seq=0
 ·cases cp0:decide (a.prev=[])with
  | false=>
   obtain rfl:q=false:=by
    have hp:C5 a=false:=by unfold C5;rw[if_pos z,cp0,Bool.and_false]
    rw[←hq,hp];simp
   refine Aa (an @hn @cp0) ?_;exact Ad
  |true=>
  by_cases kz:a.kind=0
  rotate_left
  ·obtain rfl:q=false:=by
    have hp:C5 a=false:=by unfold C5;rw[if_pos z,decide_eq_false kz];rfl
    rw[←hq,hp];simp
   refine Aa (an @hn @cp0) ?_;exact Ad
  obtain rfl:q=Bj a:=by
   have hp:C5 a=true:=by unfold C5;rw[if_pos z,decide_eq_true kz,cp0];rfl
   rw[←hq,hp,c0,htm,hsg];rfl
  refine Aa (an @hn @cp0) ?_;refine cp (Yk a h) ?_;refine run ?_;exact Ad
 ·have z':1≤a.seq:=by omega
  have hw1:wi a.seq 1 1073741824=true:=Ch.2 ⟨z',s1⟩;have hd:=Gt a.prev;cases cd:((a.prev.length:Int)==32)with
  | false=>
   have cd':((a.prev.length:Int) !=32)=true:=by simpa[bne] using cd
   obtain rfl:q=false:=by
    have hp:C5 a=false:=by unfold C5;rw[if_neg z,hd,cd,Bool.and_false]
    rw[←hq,hp];simp
   refine Aa @cd' ?_;exact Ad
  |true=>
  have cd':((a.prev.length:Int) !=32)=false:=by simpa[bne] using cd
  by_cases kz:a.kind=0
  ·obtain rfl:q=false:=by
    have hp:C5 a=false:=by unfold C5;rw[if_neg z,hw1,decide_eq_false (show ¬a.kind≠0 from fun h=>h kz)];rfl
    rw[←hq,hp];simp
   refine Aa @cd' ?_;exact Ad
  obtain rfl:q=Bj a:=by
   have hp:C5 a=true:=by unfold C5;rw[if_neg z,hw1,decide_eq_true (show a.kind≠0 from kz),hd,cd];rfl
   rw[←hq,hp,c0,htm,hsg];rfl
  refine Aa @cd' ?_;refine cp (Yk a h) ?_;refine run ?_;exact Ad
theorem Ym(b:Box)(h:b.nonce.length≤1000000∧b.data.length≤1000000∧b.tag.length≤1000000):AC prog 213 [Ko b] [] (.st (FW b)) []:=by
 refine Ai [90] [] func213 ?_;have l1:=Be h.1;have l2:=Be h.2.1;have l3:=Be h.2.2;unfold FW;refine run ?_;refine cp (Ef b.nonce (by omega)) ?_
 refine run ?_;refine cp (Ef b.data (by omega)) ?_
 refine run ?_;refine cp (Ef b.tag (by omega)) ?_
 refine run ?_;exact Ad
def JQ(a:Ac.Act):By:=
 text F5++text a.author++Ah a.seq++text a.prev++Ah a.kind++Ah a.time++text a.object++text a.target++Ah a.scope++text a.group++list a.to++text a.text++FW a.body++Ah a.epoch++num a.wraps.length
theorem Zi4(a:Ac.Act):G0 a=JQ a++(a.wraps.map Cw).flatten++Ah a.n++Ah a.m:=by
 unfold G0 JQ;simp only[List.append_assoc]
theorem SP(a:Ac.Act)(h:Sz a):AC prog 128 [Am a] [] (.st (Bq a)) []:=by
 refine Ai [125,90,91,212,213] [] func128 ?_;unfold Bq;refine run ?_;refine cp (Np a h) ?_;cases hr:Ac.right a with
 |false=>rw[if_neg (by simp)];refine run ?_;exact Ad
 | true=>
  rw[if_pos rfl];have sm:=C3 hr;have hto:a.to.length≤1000000:=by have :=sm.to;omega
  have htx:∀x∈a.to,x.length≤1000000:=fun x hx=>by have :=sm.to.2 x hx;omega
  have q1:=Be (s:=F5) (by simp)
  have k1:=Ef F5 (by simp)
  have q2:=Be (s:=a.author) (by have :=sm.author;omega)
  have k2:=Ef a.author (by have :=sm.author;omega)
  have q3:=AD a.seq (by have :=sm.seq;omega)
  have k3:=D2 a.seq (by have :=sm.seq;omega)
  have q4:=Be (s:=a.prev) (by have :=sm.prev;omega)
  have k4:=Ef a.prev (by have :=sm.prev;omega)
  have q5:=AD a.kind (by have :=sm.kind;omega)
  have k5:=D2 a.kind (by have :=sm.kind;omega)
  have q6:=AD a.time (by have :=sm.time;omega)
  have k6:=D2 a.time (by have :=sm.time;omega)
  have q7:=Be (s:=a.object) (by have :=sm.object;omega)
  have k7:=Ef a.object (by have :=sm.object;omega)
  have q8:=Be (s:=a.target) (by have :=sm.target;omega)
  have k8:=Ef a.target (by have :=sm.target;omega)
  have q9:=AD a.scope (by have :=sm.scope;omega)
  have k9:=D2 a.scope (by have :=sm.scope;omega)
  have q10:=Be (s:=a.group) (by have :=sm.group;omega)
  have k10:=Ef a.group (by have :=sm.group;omega)
  have q11:=W6 (l:=a.to) hto htx;have k11:=ZhS a.to hto htx;have q12:=Be (s:=a.text) (by have :=sm.text;omega)
  have k12:=Ef a.text (by have :=sm.text;omega)
  have q13:=NM a.body (by have :=sm.body;omega)
  have k13:=Ym a.body (by have :=sm.body;omega)
  have q14:=AD a.epoch (by have :=sm.epoch;omega)
  have k14:=D2 a.epoch (by have :=sm.epoch;omega)
  have q15:=EL (n:=a.wraps.length) (by have :=sm.wraps;omega)
  have k15:=D2 (a.wraps.length:Int) (by have :=sm.wraps;omega)
  rw[I6]at k15;have q16:=AD a.n (by have :=sm.n;omega)
  have k16:=D2 a.n (by have :=sm.n;omega)
  have q17:=AD a.m (by have :=sm.m;omega)
  have k17:=D2 a.m (by have :=sm.m;omega)
  have hwr:=sm.wraps;have hlp:(JQ a).length≤2000000000000:=by
   unfold JQ;simp only[List.length_append];omega
  rw[Zi4];have hsz:AH 5 (a.wraps.map Bo)=true:=BM 5 Bo (fun _=>rfl) _
  clear hr sm h;refine run ?_;refine cp k1 ?_;refine run ?_;refine cp k2 ?_;refine run ?_;refine cp k3 ?_;refine run ?_;refine cp k4 ?_;refine run ?_;refine cp k5 ?_;refine run ?_;refine cp k6 ?_;refine run ?_;refine cp k7 ?_;refine run ?_;refine cp k8 ?_;refine run ?_;refine cp k9 ?_;refine run ?_;refine cp k10 ?_;refine run ?_;refine cp k11 ?_;refine run ?_;refine cp k12 ?_;refine run ?_;refine cp k13 ?_;refine run ?_;refine cp k14 ?_;refine run ?_;refine cp k15 ?_;refine run ?_;refine Bn (fun m e S=>e 1=.ptr 0 0 ∧ ∃(k:Nat),e 5=.it .i64 (k:Int)∧e 4=.st (JQ a++((a.wraps.take k).map Cw).flatten)∧S=[.cells (P3 a)]∧k≤a.wraps.length∧m=a.wraps.length-k) a.wraps.length
   ⟨Ab,0,Ab,by rw[List.take_zero,List.map_nil,List.flatten_nil,List.append_nil];exact Ab,rfl,by omega,rfl⟩ ?_
  clear k1 k2 k3 k4 k5 k6 k7 k8 k9 k10 k11 k12 k13 k14 k15;clear q1 q2 q3 q4 q5 q6 q7 q8 q9 q10 q11 q12 q13 q14 q15;rintro m e S ⟨s1,k,s5,s4,rfl,hk,rfl⟩
  have hlen:=Ub hwr.2 hwr.1 k;by_cases hlt:k<a.wraps.length
  rotate_left
  ·obtain rfl:k=a.wraps.length:=by omega
   rw[List.take_length]at s4 hlen;have hx:¬((a.wraps.length:Nat):Int)<(a.wraps.length:Int):=by omega
   generalize (a.wraps.map Cw).flatten=z at *;generalize JQ a=p at *;refine Aa (A4 @s1 @s5 @s4 @hx) ?_;refine cp k16 ?_;refine Aa (A3 @s1 @s5 @s4) ?_;refine cp k17 ?_;refine Aa (A3 @s1 @s5 @s4) ?_;exact Ad
  have hg:a.wraps[k]? = some a.wraps[k]:=List.getElem?_eq_getElem hlt
  have hx:=hwr.2 a.wraps[k] (List.getElem_mem hlt);have hstep:((a.wraps.take (k+1)).map Cw).flatten=((a.wraps.take k).map Cw).flatten++Cw a.wraps[k]:=by
   rw[List.take_succ_eq_append_getElem hlt,List.map_append,List.flatten_append];congr 1
   exact List.append_nil _
  generalize a.wraps[k]=x at *;have hx':=N6 hx;have hbl:=NM x.box hx'.2.2;have hn1:=AD x.to (by omega)
  have hn2:=AD x.eph (by omega)
  generalize ((a.wraps.take k).map Cw).flatten=z at *;generalize JQ a=p at *;have hwl:=hwr.1;clear k16 k17 q16 q17 hwr;refine Aa (A5 @s1 @s5 @s4 @hg @hsz) ?_;refine cp (D2 x.to (by omega)) ?_
  refine Aa (A5 @s1 @s5 @s4 @hg @hsz) ?_;refine cp (D2 x.eph (by omega)) ?_
  refine Aa (A5 @s1 @s5 @s4 @hg @hsz) ?_;refine cp (Ym x.box hx'.2.2) ?_;refine Aa (A3 @s1 @s5 @s4) ?_;exact As (a.wraps.length-(k+1)) (by omega) ⟨Ab,k+1,Ab,by rw[hstep];unfold Cw;simp only[List.append_assoc];exact Ab,rfl,by omega,rfl⟩
theorem Tk(a:Ac.Act)(hr:Ac.right a=true):Bq a≠[]:=by
 unfold Bq G0;rw[if_pos hr]
 have:(text F5).length=4:=rfl;intro e;have :=congrArg List.length e;simp only[List.length_append,List.length_nil]at this;omega
theorem Zh3(a:Ac.Act)(h:Sz a):AC prog 329 [Am a] [] (.st (Ac.bytes a)) []:=by
 refine Ai [128,91] [] func329 ?_;refine run ?_;refine cp (SP a h) ?_;cases hr:Ac.right a with
 |false=>
  have h0:Bq a=[]:=by unfold Bq;rw[hr];rfl
  have h1:Ac.bytes a=[]:=by unfold Ac.bytes;rw[hr];rfl
  rw[h1,h0];refine run ?_;exact Ad
 |true=>
  have hne:=Tk a hr;have hl:=Tl (a:=a);have h1:Ac.bytes a=Bq a++Ah a.sig.e++Ah a.sig.s:=by unfold Ac.bytes Bq;rw[if_pos hr,if_pos hr]
  have sm:=(C3 hr).sig;simp only[Bu,Bool.and_eq_true,Ch]at sm;rw[h1];have hq:(Bq a==[])=false:=by simpa using hne
  have n1:=AD a.sig.e (by omega)
  have n2:=AD a.sig.s (by omega)
  generalize Bq a=c at *;refine Aa @hq ?_;refine cp (D2 a.sig.e (by omega)) ?_
  refine run ?_;refine cp (D2 a.sig.s (by omega)) ?_
  refine run ?_;exact Ad
end Pe
end
section
namespace Pe
open Tryz
open Go Go.RowKit Co Sg Ac
set_option maxRecDepth 100000
set_option maxHeartbeats 4000000
theorem ZhP(k:Int):AC prog 328 [.it .i64 k] [] (.bo (FM k)) []:=by
 refine Ap [] [] func328 ?_;by_cases c1:1≤k
 ·by_cases c2:k≤3
  ·have hp:FM k=true:=by
    unfold FM;simp only[Bool.or_eq_true,decide_eq_true_eq];omega
   rw[hp];refine Aa (an @c1 @c2) ?_;exact Ad
  ·have hp:FM k=false:=by
    unfold FM;simp only[Bool.or_eq_false_iff,decide_eq_false_iff_not];omega
   rw[hp];refine Aa (an @c1 @c2) ?_;exact Ad
 ·have hp:FM k=false:=by
   unfold FM;simp only[Bool.or_eq_false_iff,decide_eq_false_iff_not];omega
  rw[hp];refine Aa @c1 ?_;exact Ad
theorem XZ(p:Int)(a:Ac.Act)(h:Sz a)(hp:-9223372036854775808≤p∧p≤9223372036854775807):AC prog 244 [.it .i64 p,Am a] [] (.bo (B0 p a)) []:=by
 refine Ap [125,128,313] [] func244 ?_;unfold B0;have hl:=NE (a:=a);refine run ?_;refine cp (Np a h) ?_;cases hr:right a with
 |false=>refine run ?_;exact Ad
 |true=>
  have hs:=(C3 hr).sig;simp only[Bu,Bool.and_eq_true,Ch]at hs;refine run ?_;refine cp (SP a h) ?_;refine run ?_;refine cp (Zec p (Bq a) a.sig (by omega)) ?_
  refine run ?_;exact Ad
theorem X0(k:Key)(a:Ac.Act)(h:Sz a)(t1:a.to.length≤1000000)(t2:a.wraps.length≤1000000)(hk:-9223372036854775808≤k.secret∧k.secret≤9223372036854775807):AC prog 57 [Bx k,Am a] [] (Am (Er k a)) []:=by
 refine Ap [125,126,128,127] [] func57 ?_;have h0:Sz { a with sig:=A0 }:=⟨h.author,h.target,h.group,h.text,h.tos,h.to,h.wraps⟩
 unfold Er;simp only
 have hl:=NE (a:={ a with sig:=A0 })
 have z1:AH 1 (a.to.map AV.st)=true:=BM 1 AV.st (fun _=>rfl) _
 have z2:AH 5 (a.wraps.map Bo)=true:=BM 5 Bo (fun _=>rfl) _
 have f1:Ct a.to.length 16=true:=by simp[Ct];omega
 have f2:∀b,b≤1000→Ct a.wraps.length b=true:=fun b hb=>by
  have:a.wraps.length*b≤1000000*1000:=Nat.mul_le_mul t2 hb;simp[Ct];omega
 refine Aa (A4 @z1 @z2 @f1 @f2) ?_;refine cp (Np { a with sig:=A0 } h0) ?_
 refine run ?_;refine cp (VA k hk) ?_;cases hr:right { a with sig:=A0 } with
 |false=>
  rw[if_neg (by simp)]
  refine run ?_;exact AQ
 | true=>
  cases hkr:k.right with
  |false=>
   rw[if_neg (by simp)]
   refine run ?_;exact AQ
  |true=>
   rw[if_pos (by rfl)]
   refine run ?_;refine cp (SP { a with sig:=A0 } h0) ?_
   refine run ?_;refine cp (Zeq k _ (by omega) hk) ?_
   refine run ?_;exact AQ
end Pe
end
section
namespace Pe
open Tryz
open Go Go.RowKit Co Sg Ac It
set_option maxRecDepth 100000
set_option maxHeartbeats 4000000
theorem Zjn(c:It.Claim):(c.actor==[]&&(c.base==0&&(c.prev==[]&&(c.gen==0&&(c.home==0&&(c.pub==0&&(c.time==0&&(c.sig.e==0&&c.sig.s==0))))))))=decide (c=CX):=by
 obtain⟨a,b,p,g,h,u,t,⟨x,y⟩⟩:=c;rw[Bool.eq_iff_iff];simp[CX,A0]
theorem Zj8(c:It.Ballot):(c.server==0&&(c.actor==[]&&(c.gen==0&&(c.claim==[]&&(c.time==0&&(c.sig.e==0&&c.sig.s==0))))))=decide (c=FY):=by
 obtain⟨s,a,g,h,t,⟨x,y⟩⟩:=c;rw[Bool.eq_iff_iff];simp[FY,A0]
theorem ZeE(a:Ac.Act):It.right (An a)=Ac.right a:=by
 unfold It.right IX rest;rw[if_pos (show(An a).kind=0 from rfl),if_pos (show(An a).kind=0 from rfl),decide_eq_true (show({ An a with kind:=0,act:=act0 }:It.Item)=B2 from rfl),Bool.and_true]
 rfl
theorem R2[Tab]{N0:Nat}{B:(AX→Af→Ae→Prop)→Af→Ae→Prop}{Q:AX→Af→Ae→Prop}{e:Af}{S:Ae}(h:B (CR Q fun _ _=>False) e S):GC N0 B Q e S:=
 ⟨fun n e' S'=>n=0∧e'=e∧S'=S,⟨0,e,S,Aq.refl N0 e S,rfl,rfl,rfl⟩,fun n e' S' ⟨h1,h2,h3⟩=>by
  subst h1 h2 h3;rw[show ∀I,H7 N0 I 0=(fun _ _=>False)from fun I=>funext fun e=>funext fun S=>propext ⟨fun⟨n,_,_,h,_⟩=>absurd h (Nat.not_lt_zero n),False.elim⟩]
  exact h⟩
theorem ZhM(a:Ac.Act)(h:Ac.right a=true):AC prog 348 [Am a,Am act0] [] (.bo false) []:=by
 have e0:Am act0=.agg [.st [],.it .i64 0,.st [],.it .i64 0,.it .i64 0,.st [],.st [],.it .i64 0,.st [],.sl .ro [],.st [],.st [],.st [],.st [],.it .i64 0,.sl .ro [],.it .i64 0,.it .i64 0,.it .i64 0,.it .i64 0]:=rfl;rw[e0];have hau:(a.author==[])=false:=beq_eq_false_iff_ne.2 fun e=>by
  have :=(right_iff.1 h).1;rw[e]at this;exact absurd this (by decide)
 by_cases l1:a.to.length=0
 rotate_left
 ·refine Ai [] [] func348 ?_
  have q1:((a.to.length:Int)==0)=false:=CL (by omega)
  refine Aa @q1 ?_;exact Ad
 by_cases l2:a.wraps.length=0
 rotate_left
 ·refine Ai [] [] func348 ?_
  have q1:((a.to.length:Int)==0)=true:=by rw[l1];rfl
  have q2:((a.wraps.length:Int)==0)=false:=CL (by omega)
  refine Aa (an @q1 @q2) ?_;exact Ad
 refine Ai [] [] func348 ?_;have q1:((a.to.length:Int)==0)=true:=by rw[l1];rfl
 have q2:((a.wraps.length:Int)==0)=true:=by rw[l2];rfl
 have x1:¬(0:Int)<(a.to.length:Int):=by omega
 have x2:¬(0:Int)<(a.wraps.length:Int):=by omega
 refine Aa (an @q1 @q2) ?_;refine R2 ?_
 refine Aa @x1 ?_;refine R2 ?_
 refine Aa (an @x2 @hau) ?_;exact Ad
theorem ZhL:AC prog 349 [Kf Fu,Kf Fu] [] (.bo true) []:=by
 rw[show Kf Fu=.agg [.it .i64 0,.it .i64 0,.it .i64 0,.st [],.st [],.st [],.sl .ro [],.it .i64 0,.it .i64 0,.it .i64 0,.it .i64 0,.it .i64 0]from rfl]
 refine Ai [] [] func349 ?_;refine run ?_;refine R2 ?_
 refine run ?_;exact Ad
theorem X1{a:Ac.Act}(h:Ac.right a=true):AC prog 311 [Ao (An a)] [] (.bo true) []:=by
 have k1:=ZhM a h;have e1:=(Zjn (An a).claim).trans (decide_eq_true (show(An a).claim=CX from rfl))
 have e2:=(Zj8 (An a).ballot).trans (decide_eq_true (show(An a).ballot=FY from rfl))
 have q0:((An a).kind==0)=true:=rfl;have k2:=Np a (Oo (C3 h));rw[h]at k2;refine Ai [348,349,125,350,351,352] [] func311 ?_;refine run ?_;refine cp k1 ?_;refine Aa (an @e1 @e2) ?_;refine cp ZhL ?_;refine Aa @q0 ?_;refine cp k2 ?_;refine Aa @q0 ?_;exact Ad
theorem Zh2{a:Ac.Act}(h:Ac.right a=true):AC prog 264 [Ao (An a)] [] (.st (It.bytes (An a))) []:=by
 have kr:=X1 h;have hr:It.right (An a)=true:=by rw[ZeE];exact h
 have kn:=D2 (An a).kind (by show(0:Int)<9223372036854775808;decide)
 rw[ZH hr rfl];have k2:=Zh3 a (Oo (C3 h));have hl:=TA (a:=a);have hl0:=AD (An a).kind (by show(0:Int)<9223372036854775808;decide)
 change _≤_ at hl;refine Ai [311,91,329,330,332,333,331] [] func264 ?_;have q0:((An a).kind==0)=true:=rfl;rw[show(An a).act=a from rfl]
 generalize Ac.bytes a=z at *;generalize Ah (An a).kind=n0 at *;refine run ?_;refine cp kr ?_;refine Aa @q0 ?_;refine cp kn ?_;refine Aa @q0 ?_;refine cp k2 ?_;refine Aa @q0 ?_;exact Ad
end Pe
end
section
namespace Pe
open Tryz
open Go Go.RowKit Co Sg Ac It
set_option maxRecDepth 100000
set_option maxHeartbeats 4000000
theorem Zh1{a:Ac.Act}(h:Ac.right a=true):AC prog 154 [Ao (An a)] [] (.st (It.digest (An a))) []:=by
 refine Ap [264,89] [] func154 ?_;have kb:=Zh2 h;have hl:=ZJ (An a);unfold It.digest;generalize It.bytes (An a)=bs at *;refine run ?_;refine cp kb ?_;by_cases hb:bs=[]
 ·subst hb
  rw[if_pos rfl];refine run ?_;exact Ad
 ·have hq:(bs==[])=false:=WE bs [] hb
  rw[if_neg hb];refine Aa @hq ?_;refine cp (Q0 bs (by omega)) ?_
  refine run ?_;exact Ad
theorem ZhR(a:Ac.Act):AC prog 314 [Am a] [] (Ao (An a)) []:=by
 refine Ap [] [] func314 ?_;refine run ?_;exact AQ
end Pe
end
section
namespace Pe
open Tryz
open Go Go.RowKit Co Sg Ac It Sl Tp
set_option maxRecDepth 100000
set_option maxHeartbeats 4000000
abbrev AL(a:Ac.Act):AV:=Ao (An a)
abbrev Ie(ps:List Int)(l:List Ac.Act):AV:=.agg [AB ps,.sl .ro (l.map AL)]
abbrev Cr(k:Tp.KeyAt):AV:=.agg [.it .i64 k.frm,.it .i64 k.pub,.it .i64 k.home]
abbrev Dl(l:List Ac.Act):AV:=.sl .ro (l.map Am)
abbrev AN(c:Chn):AV:=.agg [.st c.id,Dl c.acts,.sl .ro (c.keys.map Cr),.st c.prev,.it .i64 c.gen,.bo c.fork]
theorem If(l:List Ac.Act):AH 49 (l.map AL)=true:=BM 49 AL (fun _=>rfl) _
theorem D6(l:List Ac.Act):AH 20 (l.map Am)=true:=BM 20 Am (fun _=>rfl) _
theorem J2(l:List Tp.KeyAt):AH 3 (l.map Cr)=true:=BM 3 Cr (fun _=>rfl) _
def Rt(l:List Ac.Act):Prop:=∀a∈l,Ac.right a=true
theorem Rt.iz{l:List Ac.Act}(h:Rt l):∀a∈l,Ac.right a=true:=fun a ha=>h a ha
theorem Ta(a:Ac.Act)(h:Ac.right a=true):AC prog 154 [AL a] [] (.st (dg a)) []:=Zh1 h
theorem Zg0(a b:Ac.Act)(ha:Ac.right a=true)(hb:Ac.right b=true):AC prog 312 [AL a,AL b] [] (.bo (NS a b)) []:=by
 have k1:=Ta a ha;have k2:=Ta b hb;unfold NS Xa;by_cases h:a.seq≠b.seq
 ·have q:((An a).act.seq !=(An b).act.seq)=true:=Fw h
  have q1:decide ((An a).act.seq>(An b).act.seq)=decide (b.seq<a.seq):=rfl;rw[if_pos h];refine Ai [154] [] func312 ?_;refine Aa (an @q @q1) ?_;exact Ad
 ·have q:((An a).act.seq !=(An b).act.seq)=false:=Gw (Decidable.not_not.1 h)
  have q1:((An a).decision.number !=(An b).decision.number)=false:=rfl;rw[if_neg h];generalize dg a=x at *;generalize dg b=y at *;refine Ai [154] [] func312 ?_;refine Aa (an @q @q1) ?_;refine cp k1 ?_;refine Aa (an @q @q1) ?_;refine cp k2 ?_;refine Aa (an @q @q1) ?_;exact Ad
end Pe
end
section
namespace Pe
open Tryz
open Go Go.RowKit Co Sg Ac It Sl Tp
set_option maxRecDepth 100000
set_option maxHeartbeats 4000000
theorem GJ{e:Af}{d:Nat}{v:AV}(h:e d=v):e=Aw e d v:=funext fun t=>by
 by_cases ht:t=d
 ·subst ht;rw[JI];exact h
 ·rw[HV e ht]
theorem Y1(n:Nat)(h:n<10):AC prog 105 [.it .i64 (-(n:Int))] [] (.st [UInt8.ofNat (48+n)]) []:=by
 have:n=0∨n=1∨n=2∨n=3∨n=4∨n=5∨n=6∨n=7∨n=8∨n=9:=by omega
 rcases this with rfl|rfl|rfl|rfl|rfl|rfl|rfl|rfl|rfl|rfl
 ·show AC _ _ [.it .i64 0] _ (.st [48]) _
  have e1:(0:Int).tmod 10=0:=by decide
  have w1:IntKind.i64.wrap 0=0:=wrap64 (by omega) (by omega)
  have w2:IntKind.i64.wrap 0=0:=wrap64 (by omega) (by omega)
  have w3:IntKind.i64.wrap (-0)=0:=by rw[show -(0:Int)=0 by decide];exact w2
  refine Ai [] [] func105 ?_;refine Aa (A4 @e1 @w1 @w2 @w3) ?_;exact Ad
 ·show AC _ _ [.it .i64 (-1)] _ (.st [49]) _
  have e1:((-1):Int).tmod 10=(-1):=by decide
  have w1:IntKind.i64.wrap (-1)=(-1):=wrap64 (by omega) (by omega)
  have w2:IntKind.i64.wrap 1=1:=wrap64 (by omega) (by omega)
  have w3:IntKind.i64.wrap (-(-1))=1:=by rw[show -((-1):Int)=1 by decide];exact w2
  refine Ai [] [] func105 ?_;refine Aa (A4 @e1 @w1 @w2 @w3) ?_;exact Ad
 ·show AC _ _ [.it .i64 (-2)] _ (.st [50]) _
  have e1:((-2):Int).tmod 10=(-2):=by decide
  have w1:IntKind.i64.wrap (-2)=(-2):=wrap64 (by omega) (by omega)
  have w2:IntKind.i64.wrap 2=2:=wrap64 (by omega) (by omega)
  have w3:IntKind.i64.wrap (-(-2))=2:=by rw[show -((-2):Int)=2 by decide];exact w2
  refine Ai [] [] func105 ?_;refine Aa (A4 @e1 @w1 @w2 @w3) ?_;exact Ad
 ·show AC _ _ [.it .i64 (-3)] _ (.st [51]) _
  have e1:((-3):Int).tmod 10=(-3):=by decide
  have w1:IntKind.i64.wrap (-3)=(-3):=wrap64 (by omega) (by omega)
  have w2:IntKind.i64.wrap 3=3:=wrap64 (by omega) (by omega)
  have w3:IntKind.i64.wrap (-(-3))=3:=by rw[show -((-3):Int)=3 by decide];exact w2
  refine Ai [] [] func105 ?_;refine Aa (A4 @e1 @w1 @w2 @w3) ?_;exact Ad
 ·show AC _ _ [.it .i64 (-4)] _ (.st [52]) _
  have e1:((-4):Int).tmod 10=(-4):=by decide
  have w1:IntKind.i64.wrap (-4)=(-4):=wrap64 (by omega) (by omega)
  have w2:IntKind.i64.wrap 4=4:=wrap64 (by omega) (by omega)
  have w3:IntKind.i64.wrap (-(-4))=4:=by rw[show -((-4):Int)=4 by decide];exact w2
  refine Ai [] [] func105 ?_;refine Aa (A4 @e1 @w1 @w2 @w3) ?_;exact Ad
 ·show AC _ _ [.it .i64 (-5)] _ (.st [53]) _
  have e1:((-5):Int).tmod 10=(-5):=by decide
  have w1:IntKind.i64.wrap (-5)=(-5):=wrap64 (by omega) (by omega)
  have w2:IntKind.i64.wrap 5=5:=wrap64 (by omega) (by omega)
  have w3:IntKind.i64.wrap (-(-5))=5:=by rw[show -((-5):Int)=5 by decide];exact w2
  refine Ai [] [] func105 ?_;refine Aa (A4 @e1 @w1 @w2 @w3) ?_;exact Ad
 ·show AC _ _ [.it .i64 (-6)] _ (.st [54]) _
  have e1:((-6):Int).tmod 10=(-6):=by decide
  have w1:IntKind.i64.wrap (-6)=(-6):=wrap64 (by omega) (by omega)
  have w2:IntKind.i64.wrap 6=6:=wrap64 (by omega) (by omega)
  have w3:IntKind.i64.wrap (-(-6))=6:=by rw[show -((-6):Int)=6 by decide];exact w2
  refine Ai [] [] func105 ?_;refine Aa (A4 @e1 @w1 @w2 @w3) ?_;exact Ad
 ·show AC _ _ [.it .i64 (-7)] _ (.st [55]) _
  have e1:((-7):Int).tmod 10=(-7):=by decide
  have w1:IntKind.i64.wrap (-7)=(-7):=wrap64 (by omega) (by omega)
  have w2:IntKind.i64.wrap 7=7:=wrap64 (by omega) (by omega)
  have w3:IntKind.i64.wrap (-(-7))=7:=by rw[show -((-7):Int)=7 by decide];exact w2
  refine Ai [] [] func105 ?_;refine Aa (A4 @e1 @w1 @w2 @w3) ?_;exact Ad
 ·show AC _ _ [.it .i64 (-8)] _ (.st [56]) _
  have e1:((-8):Int).tmod 10=(-8):=by decide
  have w1:IntKind.i64.wrap (-8)=(-8):=wrap64 (by omega) (by omega)
  have w2:IntKind.i64.wrap 8=8:=wrap64 (by omega) (by omega)
  have w3:IntKind.i64.wrap (-(-8))=8:=by rw[show -((-8):Int)=8 by decide];exact w2
  refine Ai [] [] func105 ?_;refine Aa (A4 @e1 @w1 @w2 @w3) ?_;exact Ad
 ·show AC _ _ [.it .i64 (-9)] _ (.st [57]) _
  have e1:((-9):Int).tmod 10=(-9):=by decide
  have w1:IntKind.i64.wrap (-9)=(-9):=wrap64 (by omega) (by omega)
  have w2:IntKind.i64.wrap 9=9:=wrap64 (by omega) (by omega)
  have w3:IntKind.i64.wrap (-(-9))=9:=by rw[show -((-9):Int)=9 by decide];exact w2
  refine Ai [] [] func105 ?_;refine Aa (A4 @e1 @w1 @w2 @w3) ?_;exact Ad
theorem ZiM(n:Nat)(h0:10≤n)(h:n<100):AC prog 105 [.it .i64 (-(n:Int))] [] (.st [UInt8.ofNat (48+n / 10),UInt8.ofNat (48+n % 10)]) []:=by
 have k:=Y1 (n / 10) (by omega)
 have e1:(-(n:Int)).tdiv 10 = -((n / 10:Nat):Int):=by rw[Int.neg_tdiv];rfl
 have e2:(-(n:Int)).tmod 10 = -((n % 10:Nat):Int):=by rw[Int.neg_tmod];rfl
 have hle:-(n:Int) ≤ -10:=by omega
 have w1:IntKind.i64.wrap (-((n / 10:Nat):Int)) = -((n / 10:Nat):Int):=wrap64 (by omega) (by omega)
 have hd:n % 10<10:=by omega
 generalize UInt8.ofNat (48+n / 10)=c at *;generalize n / 10=a at *;generalize n % 10=b at *
 have:b=0∨b=1∨b=2∨b=3∨b=4∨b=5∨b=6∨b=7∨b=8∨b=9:=by omega
 rcases this with rfl|rfl|rfl|rfl|rfl|rfl|rfl|rfl|rfl|rfl
 ·have e2:(-(n:Int)).tmod 10=0:=e2
  have w4:IntKind.i64.wrap 0=0:=wrap64 (by omega) (by omega)
  have w2:IntKind.i64.wrap 0=0:=wrap64 (by omega) (by omega)
  have w3:IntKind.i64.wrap (-0)=0:=by rw[show -(0:Int)=0 by decide];exact w2
  show AC _ _ _ _ (.st [c,48]) _
  refine Ai [105] [] func105 ?_;refine Aa (A3 @hle @e1 @w1) ?_;refine cp k ?_;refine Aa (A4 @e2 @w4 @w2 @w3) ?_;exact Ad
 ·have e2:(-(n:Int)).tmod 10=(-1):=e2
  have w4:IntKind.i64.wrap (-1)=(-1):=wrap64 (by omega) (by omega)
  have w2:IntKind.i64.wrap 1=1:=wrap64 (by omega) (by omega)
  have w3:IntKind.i64.wrap (-(-1))=1:=by rw[show -((-1):Int)=1 by decide];exact w2
  show AC _ _ _ _ (.st [c,49]) _
  refine Ai [105] [] func105 ?_;refine Aa (A3 @hle @e1 @w1) ?_;refine cp k ?_;refine Aa (A4 @e2 @w4 @w2 @w3) ?_;exact Ad
 ·have e2:(-(n:Int)).tmod 10=(-2):=e2
  have w4:IntKind.i64.wrap (-2)=(-2):=wrap64 (by omega) (by omega)
  have w2:IntKind.i64.wrap 2=2:=wrap64 (by omega) (by omega)
  have w3:IntKind.i64.wrap (-(-2))=2:=by rw[show -((-2):Int)=2 by decide];exact w2
  show AC _ _ _ _ (.st [c,50]) _
  refine Ai [105] [] func105 ?_;refine Aa (A3 @hle @e1 @w1) ?_;refine cp k ?_;refine Aa (A4 @e2 @w4 @w2 @w3) ?_;exact Ad
 ·have e2:(-(n:Int)).tmod 10=(-3):=e2
  have w4:IntKind.i64.wrap (-3)=(-3):=wrap64 (by omega) (by omega)
  have w2:IntKind.i64.wrap 3=3:=wrap64 (by omega) (by omega)
  have w3:IntKind.i64.wrap (-(-3))=3:=by rw[show -((-3):Int)=3 by decide];exact w2
  show AC _ _ _ _ (.st [c,51]) _
  refine Ai [105] [] func105 ?_;refine Aa (A3 @hle @e1 @w1) ?_;refine cp k ?_;refine Aa (A4 @e2 @w4 @w2 @w3) ?_;exact Ad
 ·have e2:(-(n:Int)).tmod 10=(-4):=e2
  have w4:IntKind.i64.wrap (-4)=(-4):=wrap64 (by omega) (by omega)
  have w2:IntKind.i64.wrap 4=4:=wrap64 (by omega) (by omega)
  have w3:IntKind.i64.wrap (-(-4))=4:=by rw[show -((-4):Int)=4 by decide];exact w2
  show AC _ _ _ _ (.st [c,52]) _
  refine Ai [105] [] func105 ?_;refine Aa (A3 @hle @e1 @w1) ?_;refine cp k ?_;refine Aa (A4 @e2 @w4 @w2 @w3) ?_;exact Ad
 ·have e2:(-(n:Int)).tmod 10=(-5):=e2
  have w4:IntKind.i64.wrap (-5)=(-5):=wrap64 (by omega) (by omega)
  have w2:IntKind.i64.wrap 5=5:=wrap64 (by omega) (by omega)
  have w3:IntKind.i64.wrap (-(-5))=5:=by rw[show -((-5):Int)=5 by decide];exact w2
  show AC _ _ _ _ (.st [c,53]) _
  refine Ai [105] [] func105 ?_;refine Aa (A3 @hle @e1 @w1) ?_;refine cp k ?_;refine Aa (A4 @e2 @w4 @w2 @w3) ?_;exact Ad
 ·have e2:(-(n:Int)).tmod 10=(-6):=e2
  have w4:IntKind.i64.wrap (-6)=(-6):=wrap64 (by omega) (by omega)
  have w2:IntKind.i64.wrap 6=6:=wrap64 (by omega) (by omega)
  have w3:IntKind.i64.wrap (-(-6))=6:=by rw[show -((-6):Int)=6 by decide];exact w2
  show AC _ _ _ _ (.st [c,54]) _
  refine Ai [105] [] func105 ?_;refine Aa (A3 @hle @e1 @w1) ?_;refine cp k ?_;refine Aa (A4 @e2 @w4 @w2 @w3) ?_;exact Ad
 ·have e2:(-(n:Int)).tmod 10=(-7):=e2
  have w4:IntKind.i64.wrap (-7)=(-7):=wrap64 (by omega) (by omega)
  have w2:IntKind.i64.wrap 7=7:=wrap64 (by omega) (by omega)
  have w3:IntKind.i64.wrap (-(-7))=7:=by rw[show -((-7):Int)=7 by decide];exact w2
  show AC _ _ _ _ (.st [c,55]) _
  refine Ai [105] [] func105 ?_;refine Aa (A3 @hle @e1 @w1) ?_;refine cp k ?_;refine Aa (A4 @e2 @w4 @w2 @w3) ?_;exact Ad
 ·have e2:(-(n:Int)).tmod 10=(-8):=e2
  have w4:IntKind.i64.wrap (-8)=(-8):=wrap64 (by omega) (by omega)
  have w2:IntKind.i64.wrap 8=8:=wrap64 (by omega) (by omega)
  have w3:IntKind.i64.wrap (-(-8))=8:=by rw[show -((-8):Int)=8 by decide];exact w2
  show AC _ _ _ _ (.st [c,56]) _
  refine Ai [105] [] func105 ?_;refine Aa (A3 @hle @e1 @w1) ?_;refine cp k ?_;refine Aa (A4 @e2 @w4 @w2 @w3) ?_;exact Ad
 ·have e2:(-(n:Int)).tmod 10=(-9):=e2
  have w4:IntKind.i64.wrap (-9)=(-9):=wrap64 (by omega) (by omega)
  have w2:IntKind.i64.wrap 9=9:=wrap64 (by omega) (by omega)
  have w3:IntKind.i64.wrap (-(-9))=9:=by rw[show -((-9):Int)=9 by decide];exact w2
  show AC _ _ _ _ (.st [c,57]) _
  refine Ai [105] [] func105 ?_;refine Aa (A3 @hle @e1 @w1) ?_;refine cp k ?_;refine Aa (A4 @e2 @w4 @w2 @w3) ?_;exact Ad
theorem Qv(n:Nat)(h:n<100):AC prog 47 [.it .i64 (n:Int)] [] (.st (E4 n)) []:=by
 have hn:¬(n:Int)<0:=by omega
 have e0:(0:Int)-(n:Int) = -(n:Int):=by omega
 have w1:IntKind.i64.wrap (-(n:Int)) = -(n:Int):=wrap64 (by omega) (by omega)
 have w0:IntKind.i64.wrap (0-(n:Int)) = -(n:Int):=by rw[e0,w1]
 unfold E4;by_cases h1:n<10
 ·have k:=Y1 n h1
  rw[if_pos h1];refine Ai [105] [] func47 ?_;refine Aa (A3 @hn @w0 @w1) ?_;refine cp k ?_;refine run ?_;exact Ad
 ·have k:=ZiM n (by omega) h
  rw[if_neg h1];refine Ai [105] [] func47 ?_;refine Aa (A3 @hn @w0 @w1) ?_;refine cp k ?_;refine run ?_;exact Ad
theorem Gd(n m:Int)(h:-9223372036854775808≤n∧n≤9223372036854775807)(hm:0<m∧m≤1000000):AC prog 10 [.it .i64 n,.it .i64 m] [] (.it .i64 (AM n m)) []:=by
 show AC _ _ _ _ (.it .i64 (pickN47 n m)) _
 refine Ap [] [] func10 ?_;have h0:=Wb (n:=n) hm.1;have h1:-m<n.tmod m∧n.tmod m<m:=by
  unfold pickN47 at h0;have h2:=Int.lt_tmod_of_pos n hm.1;split at h0<;>omega
 have hw:IntKind.i64.wrap (n.tmod m)=n.tmod m:=wrap64 (by omega) (by omega)
 have hw1:n.tmod m<0→IntKind.i64.wrap (n.tmod m+m)=n.tmod m+m:=fun _=>wrap64 (by omega) (by omega)
 have hmz:¬m=0:=by omega
 refine Aa (an @hw @hmz) ?_;by_cases h0:n.tmod m<0
 ·have hw1:=hw1 h0
  rw[show pickN47 n m=n.tmod m+m from if_pos h0]
  refine Aa (A3 @hw @hw1 @hmz) ?_;exact Ad
 ·rw[show pickN47 n m=n.tmod m from if_neg h0]
  refine Aa (an @hw @hmz) ?_;exact Ad
theorem FN(n:Int){m:Int}(hm:0<m):0≤AM n m∧AM n m<m:=Wb (n:=n) hm
theorem ZhA(b:UInt8):Sm.hex2 b=[Sm.digs.getD (b.toNat / 16) 0,Sm.digs.getD (b.toNat % 16) 0]:=by
 have h:∀n:_root_.Fin 256,Sm.hex2 (UInt8.ofNat n.1)=[Sm.digs.getD (n.1 / 16) 0,Sm.digs.getD (n.1 % 16) 0]:=by decide +kernel
 have :=h ⟨b.toNat,UInt8.toNat_lt b⟩;simpa using this
theorem Cg{k:Nat}(h:k<4611686018427387904):IntKind.i64.wrap ((k:Int)+1)=((k+1:Nat):Int):=by rw[wrap64 (by omega) (by omega)];omega
theorem ZeK(s:By)(hs:s.length≤1000000):AC prog 88 [.st s] [] (.st (Sm.hex s)) []:=by
 refine Ai [] [] func88 ?_;refine run ?_;refine CG (fun m e S=>e 0=.st s ∧ ∃(k:Nat) (acc:By) (T:Ae),e 4=.it .i64 (k:Int)∧e 3=.sl (.own 0) (acc.map u8)∧S=.buf acc.length 5 1::T∧acc=Sm.hex (s.take k)∧k≤s.length∧m=s.length-k) s.length _ _ (Aq.reserve 0 3 (es:=[]) (by rfl) 5 1)
  ⟨Ab,0,[],[],Ab,Ab,rfl,by simp[Sm.hex],by omega,rfl⟩ ?_
 rintro m e S ⟨s0,k,acc,T,s4,s3,rfl,hacc,hk,rfl⟩
 have hal:acc.length=2*k:=by
  rw[hacc,Sm.hex,List.length_flatMap,show(List.map (fun a=>(Sm.hex2 a).length) (s.take k))=(s.take k).map (fun _=>2)from List.map_congr_left (fun _ _=>rfl),List.map_const',List.sum_replicate_nat,List.length_take,Nat.min_eq_left hk,Nat.mul_comm]
 by_cases hlt:k<s.length
 ·have hg:s[k]? = some s[k]:=List.getElem?_eq_getElem hlt
  have hst:acc++Sm.hex2 s[k]=Sm.hex (s.take (k+1)):=by
   rw[List.take_succ_eq_append_getElem hlt,Sm.hex,List.flatMap_append,hacc];simp[Sm.hex]
  have hlt':(k:Int)<(s.length:Int):=by omega
  have w1:=Cg (k:=k) (by omega)
  rw[ZhA]at hst;generalize s[k]=x at *;have hx:=UInt8.toNat_lt x;have e1:IntKind.u8.wrap (((x.toNat:Nat):Int).tdiv 16)=((x.toNat / 16:Nat):Int):=by
   rw[show((x.toNat:Nat):Int).tdiv 16=((x.toNat / 16:Nat):Int)from rfl]
   exact KI (by omega) (by omega)
  have e2:((x.toNat:Nat):Int).tmod 16=((x.toNat % 16:Nat):Int):=rfl;have hd1:Sm.digs[x.toNat / 16]? = some (Sm.digs.getD (x.toNat / 16) 0):=by
   rw[List.getD_eq_getElem?_getD,List.getElem?_eq_getElem (show x.toNat / 16<Sm.digs.length by show _<16;omega)];rfl
  have hd2:Sm.digs[x.toNat % 16]? = some (Sm.digs.getD (x.toNat % 16) 0):=by
   rw[List.getD_eq_getElem?_getD,List.getElem?_eq_getElem (show x.toNat % 16<Sm.digs.length by show _<16;omega)];rfl
  generalize Sm.digs.getD (x.toNat / 16) 0=c1 at *;generalize Sm.digs.getD (x.toNat % 16) 0=c2 at *;unfold Sm.digs at hd1 hd2;have hu8:∀b:UInt8,u8 b=.it .u8 (b.toNat:Int):=fun _=>rfl
  refine Aa (AA @s0 @s4 @s3 @hg @hlt' @hu8 @e1 @e2 @hd1 @hd2 @w1) ?_;exact As (s.length-(k+1)) (by omega) ⟨Ab,k+1,acc++[c1,c2],_,Ab,by rw[List.map_append];exact Ab,by rw[List.length_append];rfl,hst,by omega,rfl⟩
 ·obtain rfl:k=s.length:=by omega
  rw[List.take_length]at hacc;have hbo:bytesOf (acc.map u8)=some acc:=Mi acc;have hlt':¬(s.length:Int)<(s.length:Int):=by omega
  rw[←hacc];refine Aa (A5 @s0 @s4 @s3 @hlt' @hbo) ?_;exact Ad
theorem XN(l:By):(Sm.hex l).length=2*l.length:=by
 rw[Sm.hex,List.length_flatMap,show(List.map (fun a=>(Sm.hex2 a).length) l)=l.map (fun _=>2)from List.map_congr_left (fun _ _=>rfl),List.map_const',List.sum_replicate_nat,Nat.mul_comm]
theorem Zay(n:Int)(h:-9223372036854775808≤n∧n≤9223372036854775807):AC prog 32 [.it .i64 n] [] (.st (Ds n)) []:=by
 have k1:=Ef [97,99,116,111,114] (by simp)
 have k2:=D2 n (by omega)
 have hnl:=AD n (by omega)
 have htl:(text [97,99,116,111,114]).length≤20:=by decide
 have k3:=Q0 (text [97,99,116,111,114]++Ah n) (by rw[List.length_append];omega)
 have hsl:=show(Sm.sha (text [97,99,116,111,114]++Ah n)).length=32 from rfl
 have k4:=ZeK (Sm.sha (text [97,99,116,111,114]++Ah n)) (by omega)
 have hhl:=XN (Sm.sha (text [97,99,116,111,114]++Ah n));unfold Ds;generalize text [97,99,116,111,114]=x at *;generalize Ah n=y at *;generalize Sm.sha (x++y)=z at *;generalize Sm.hex z=u at *;have hb16:16≤u.length:=by omega
 refine Ai [90,91,89,88] [] func32 ?_;refine run ?_;refine cp k1 ?_;refine run ?_;refine cp k2 ?_;refine run ?_;refine cp k3 ?_;refine run ?_;refine cp k4 ?_;refine Aa @hb16 ?_;exact Ad
theorem PH(n:Nat):(E4 n).length≤2:=by
 unfold E4;split<;>simp
theorem L1(who:Int)(moves:Nat)(h:-9223372036854775808≤who∧who≤9223372036854775807)(hm:moves<100):AC prog 11 [.it .i64 who,.it .i64 (moves:Int)] [] (Bx (Bv who moves)) []:=by
 have hp:=FN who (m:=4) (by decide)
 have k1:=Gd who 4 h (by decide)
 have k2:=Qv (AM who 4).toNat (by omega)
 rw[show(((AM who 4).toNat:Nat):Int)=AM who 4 by omega]at k2
 have k3:=Qv moves hm;have l2:=PH (AM who 4).toNat;have l3:=PH moves;have k4:=VB ([97,99,116,111,114,32]++E4 (AM who 4).toNat++[32]++E4 moves) (by simp only[List.length_append,List.length_cons,List.length_nil];omega)
 unfold Bv;generalize E4 (AM who 4).toNat=x at *;generalize E4 moves=y at *;generalize AM who 4=p at *;generalize hks:Hq ([97,99,116,111,114,32]++x++[32]++y)=kk at *;refine Ai [10,47,46] [] func11 ?_;refine run ?_;refine cp k1 ?_;refine run ?_;refine cp k2 ?_;refine run ?_;refine cp k3 ?_;refine run ?_;refine cp k4 ?_;refine run ?_;exact Ad
theorem ZaJ(who:Int)(moves:Nat):(Bv who moves).right=true∧(1≤(Bv who moves).secret∧(Bv who moves).secret≤2305843009213693950)∧(0≤(Bv who moves).pub∧(Bv who moves).pub≤2305843009213693950):=by
 have h:(Bv who moves).right=true:=Xj _;refine⟨h,?_⟩
 obtain⟨h1,h2,h3⟩:=Key.right_iff.1 h;have :=Fi 37 (Bv who moves).secret.toNat;rw[h3];omega
theorem P2(who:Int)(h:-9223372036854775808≤who∧who≤9223372036854775807):AC prog 7 [.it .i64 who] [] (.st (DW who)) []:=by
 have k1:=L1 who 0 h (by decide)
 have hi:=ZaJ who 0;have k2:=Zay (Bv who 0).pub (by omega)
 unfold DW;generalize Bv who 0=k at *;generalize Ds k.pub=d at *;refine Ai [11,32] [] func7 ?_;refine run ?_;refine cp k1 ?_;refine run ?_;refine cp k2 ?_;refine run ?_;exact Ad
end Pe
end
section
namespace Tp
open Tryz
open Go Co Sg Ac It
def KA(l:List Ac.Act):Prop:=∀a∈l,Ac.right a=true
theorem COk.le{c:Chn}{n m:Nat}(h:COk c n)(hm:n≤m):COk c m:=
 ⟨h.acts,by have :=h.len;omega,by have :=h.klen;omega,h.key,fun k hk=>⟨by have :=(h.keys k hk).1;omega,(h.keys k hk).2⟩⟩
theorem Zje(id:By)(f:Bool):COk ⟨id,[],[],[],0,f⟩ 0:=
 ⟨by simp,Nat.le_refl _,Nat.le_refl _,fun h=>absurd rfl h,by simp⟩
theorem Zaj{c:Chn}{n:Nat}{a:Ac.Act}(h:COk c n)(ha:Ac.right a=true)(h0:c.acts=[]→a.kind=0):COk (Bi c a) (n+1):=by
 have hl:=h.len;have hk:=h.klen;refine⟨fun x hx=>?_,?_,?_,fun _=>?_,fun k hk=>?_⟩
 ·rcases List.mem_append.1 hx with hx|hx
  ·exact h.acts x hx
  ·rw[List.mem_singleton.1 hx];exact ha
 ·show(c.acts++[a]).length≤_
  rw[List.length_append,List.length_singleton];omega
 ·show(if a.kind=18∨a.kind=0 then _ else _:List KeyAt).length≤_
  split
  ·rw[List.length_append,List.length_singleton];omega
  ·omega
 ·show(if a.kind=18∨a.kind=0 then _ else _:List KeyAt)≠[]
  split
  ·simp
  ·rename_i hn
   exact h.key fun hc=>hn (.inr (h0 hc))
 ·have hk':k∈(if a.kind=18∨a.kind=0 then c.keys++[⟨if a.kind=0 then 0 else((c.acts.length+1:Nat):Int),a.n,a.m⟩]else c.keys):=hk
  have old:∀k∈c.keys,(0≤k.frm∧k.frm≤((n+1:Nat):Int)) ∧ ∃a,Ac.right a=true∧k.pub=a.n∧k.home=a.m:=fun k hk=>⟨by have :=(h.keys k hk).1;omega,(h.keys k hk).2⟩
  split at hk'
  ·rcases List.mem_append.1 hk' with hk'|hk'
   ·exact old k hk'
   ·rw[List.mem_singleton.1 hk']
    refine⟨?_,a,ha,rfl,rfl⟩
    show 0≤(if a.kind=0 then(0:Int)else((c.acts.length+1:Nat):Int))∧(if a.kind=0 then(0:Int)else((c.acts.length+1:Nat):Int))≤_
    split<;>omega
  ·exact old k hk'
theorem ZjF{l:List Ac.Act}{c:Chn}{a:Ac.Act}(h:a∈BD l c):a∈l∧Bp c a=true:=by
 have h:=List.mem_filter.1 h;exact⟨h.1,by have :=h.2;simp only[Bool.and_eq_true]at this;exact this.1⟩
theorem ZhW{c:Chn}{a:Ac.Act}(h:Bp c a=true):Ac.right a=true∧(c.acts=[]→a.kind=0):=by
 unfold Bp at h;simp only[Bool.and_eq_true,decide_eq_true_eq]at h;exact⟨h.1.1.1.1.1,fun hc=>h.1.2.2 (by rw[hc];rfl)⟩
theorem ZjZ{l:List Ac.Act}{id:By}{a:Ac.Act}(h:a∈CY l id):a∈l∧a.kind=0:=by
 have h:=List.mem_filter.1 h;refine⟨h.1,?_⟩
 have :=h.2;unfold Cl at this;simp only[Bool.and_eq_true,Bool.not_eq_true',Bool.or_eq_false_iff,Bool.not_eq_false',beq_iff_eq]at this;exact this.1.1.1.1.2
theorem COk.last{c:Chn}{n:Nat}(h:COk c n):(0≤(Cy c).pub∧(Cy c).pub≤2305843009213693950)∧(0≤(Cy c).home∧(Cy c).home≤2305843009213693950):=by
 unfold Cy;rw[List.getD_eq_getElem?_getD]
 cases hk:c.keys[c.keys.length-1]? with
 |none=>simp
 |some k=>
  obtain⟨_,a,hr,e1,e2⟩:=h.keys k (List.mem_of_getElem? hk);have hs:=C3 hr;have h1:=hs.n;have h2:=hs.m;rw[Option.getD_some,e1,e2];exact⟨h1,h2⟩
end Tp
end
section
namespace Pe
open Tryz
open Go Go.RowKit Co Sg Ac It Sl Tp
set_option maxRecDepth 100000
set_option maxHeartbeats 4000000
theorem UF(s:By)(h:s.length≤1000000):(text s).length≤s.length+9:=by
 have :=EL (n:=s.length) (by omega)
 unfold text;rw[List.length_append];omega
theorem ZgB{l:List By}(h:l.length≤10)(hs:∀s∈l,s.length≤5000):(list l).length≤60000:=by
 have key:∀m:List By,(∀s∈m,s.length≤5000)→(m.map text).flatten.length≤m.length*5009:=by
  intro m;induction m with
  |nil=>intro _;simp
  |cons s m ih=>
   intro h;have e0:=h s (by simp)
   have e1:=UF s (by omega)
   have e2:=ih fun x hx=>h x (by simp[hx])
   rw[List.map_cons,List.flatten_cons,List.length_append,List.length_cons,Nat.succ_mul];omega
 have h3:=key l hs;have h4:l.length*5009≤10*5009:=Nat.mul_le_mul_right _ h;have h5:=EL (n:=l.length) (by omega)
 unfold list;rw[List.length_append];omega
theorem L5(l:List By):(hL l).length=32:=rfl
def QB(key nonce:By)(i:Nat):By:=hL [Of,key,nonce,Ah ((i / 32:Nat):Int)]
theorem RU(key nonce s:By):(CU key nonce s).length=s.length:=by simp[CU]
theorem VK(n k:Nat)(h:k≤n):(List.range n).take k=List.range k:=by
 apply List.ext_getElem
 ·simp;omega
 ·intro i h1 h2
  simp
theorem Zgn(key nonce s:By)(k:Nat)(h:k<s.length):(CU key nonce s).take (k+1)=(CU key nonce s).take k++[(s.getD k 0)^^^((QB key nonce k).getD (k % 32) 0)]:=by
 unfold CU QB;rw[←List.map_take,←List.map_take,VK _ _ (by omega),VK _ _ (by omega),List.range_succ,List.map_append]
 rfl
end Pe
end
section
namespace Pe
open Tryz
open Go Go.RowKit Co Sg Ac It Sl Tp
set_option maxRecDepth 100000
set_option maxHeartbeats 4000000
theorem MJ(l:List By)(hl:l.length≤10)(hx:∀x∈l,x.length≤5000):AC prog 136 [B8 l] [] (.st (hL l)) []:=by
 have hll:=ZgB hl hx;have k1:=R3 l (by omega) (fun s hs=>by have :=hx s hs;omega)
 have k2:=MK (list l) (by omega)
 unfold hL;generalize list l=x at *;refine Ai [169,50] [] func136 ?_;refine run ?_;refine cp k1 ?_;refine run ?_;refine cp k2 ?_;refine run ?_;exact Ad
theorem Zf7(s:By):Sm.num s<2305843009213693952:=by
 have :=Sm.nat8_lt s 8;unfold Sm.num;omega
theorem UU(key nonce data:By)(h1:key.length≤5000)(h2:nonce.length≤5000)(h3:data.length≤5000):AC prog 225 [.st key,.st nonce,.st data] [] (.st (IS key nonce data)) []:=by
 have kh:=MJ [Oe,key,nonce,data] (by simp) (by simp;omega)
 have hl:(hL [Oe,key,nonce,data]).length=32:=L5 _;unfold IS;generalize hL [Oe,key,nonce,data]=h at *;refine Ai [136] [] func225 ?_;refine run ?_;refine cp kh ?_;refine Aa @hl ?_;exact Ad
def Jm(key nonce:By):By:=hL [Of,key,nonce,Ah 0]
theorem ZjW(key nonce:By):(Jm key nonce).length=32:=L5 _
theorem ZcY(key nonce:By)(hk:key.length≤5000)(hn:nonce.length≤5000)(b n:Nat)(h0:0<n)(h32:n≤32)(oD:SObj)(oB oO:Nat→SObj)(oL oL':SObj)
  (hok:∀k,([oD,oB k,oO k,.cells [.st key],.cells [.st nonce],oL']:Ae).all (SObj.ok 6)=true)
  (hY:∀(k:Nat) (x:UInt8),k+1<n→(Jm key nonce)[k]? = some x→CO prog b [.it .u8 x.toNat] [oD,oB k,oO k,.cells [.st key],.cells [.st nonce],oL] (.bo true) [oD,oB (k+1),oO (k+1),.cells [.st key],.cells [.st nonce],oL])
  (hE:∀(k:Nat) (x:UInt8),k+1=n→(Jm key nonce)[k]? = some x→CO prog b [.it .u8 x.toNat] [oD,oB k,oO k,.cells [.st key],.cells [.st nonce],oL] (.bo false) [oD,oB (k+1),oO (k+1),.cells [.st key],.cells [.st nonce],oL']):
  AC prog 347 [.fn (.yield b) [] [],.ptr 3 0,.ptr 4 0] [oD,oB 0,oO 0,.cells [.st key],.cells [.st nonce],oL] (.tup []) [oD,oB n,oO n,.cells [.st key],.cells [.st nonce],oL']:=by
 have kn:=BQ 0 (by omega) (by omega)
 have kh:=MJ [Of,key,nonce,Ah 0] (by simp) (by
  have:(Ah 0).length≤5000:=by decide
  simp
  omega)
 have hbl:=ZjW key nonce;change AC _ _ _ _ (.st (Jm key nonce)) _ at kh;generalize Jm key nonce=z at *;refine Ai [67,136] [] func347 ?_;refine run ?_;refine LX fun K hK=>?_
 clear hK;refine run ?_;refine cp kn ?_;refine run ?_;refine cp kh ?_;refine Aa @hbl ?_;refine Bn (fun m e S=>e 0=.fn (.yield b) [] []∧e 5=.st z∧e 16=.it .i64 32 ∧ ∃k:Nat,e 17=.it .i64 (k:Int)∧S=[oD,oB k,oO k,.cells [.st key],.cells [.st nonce],oL]∧k<n∧m=n-k) n ⟨Ab,Ab,Ab,0,Ab,rfl,h0,rfl⟩ ?_
 rintro m e S ⟨s0,s5,s16,k,s17,rfl,hk',rfl⟩
 have hlt:(k:Int)<32:=by omega
 have hg:z[k]? = some z[k]:=List.getElem?_eq_getElem (by omega)
 have h0k:(0:Int)≤(k:Int):=by omega
 have hkl:(k:Int)<(z.length:Int):=by omega
 have w1:=Cg (k:=k) (by omega)
 by_cases hl:k+1<n
 ·have ky:=hY k z[k] hl hg
  generalize z[k]'(by omega)=x at *
  refine Aa (A8 @s0 @s5 @s16 @s17 @hlt @hg @h0k @hkl) ?_;refine Tx _ _ (show Mu _ _ _ _ _ _ _ _ _ from⟨⟨rfl,rfl⟩,ky⟩) ?_
  refine Aa (A5 @s0 @s5 @s16 @s17 @w1) ?_;exact As (n-(k+1)) (by omega) ⟨Ab,Ab,Ab,k+1,Ab,rfl,hl,rfl⟩
 ·have hkn:k+1=n:=by omega
  have ky:=hE k z[k] hkn hg;have hok':=hok n;generalize z[k]'(by omega)=x at *
  subst hkn;refine Aa (A8 @s0 @s5 @s16 @s17 @hlt @hg @h0k @hkl) ?_;refine Tx _ _ (show Mu _ _ _ _ _ _ _ _ _ from⟨⟨rfl,rfl⟩,ky⟩) ?_
  refine run ?_;exact BI hok'
end Pe
end
end Go.Proofs.YtchpmmjmimaigaaGreatDoor
