import Derived.Test.YtchpmmjmimaigaaGreatDoorKh18
set_option linter.unusedSectionVars false
set_option linter.unusedVariables false
set_option linter.unusedSimpArgs false
namespace Go.Proofs.YtchpmmjmimaigaaGreatDoor
section
namespace Pe
open Tryz
open Go Go.RowKit Co Sg Ac
variable [Tab]
set_option maxRecDepth 100000
set_option maxHeartbeats 4000000
abbrev Ko(b:Box):AV:=.agg [.st b.nonce,.st b.data,.st b.tag]
abbrev Bo(w:Wrap):AV:=.agg [.it .i64 w.to,.it .i64 w.eph,.st w.box.nonce,.st w.box.data,.st w.box.tag]
abbrev wraps(m:Mode)(l:List Wrap):AV:=.sl m (l.map Bo)
abbrev P3(a:Ac.Act):List AV:=[.st a.author,.it .i64 a.seq,.st a.prev,.it .i64 a.kind,.it .i64 a.time,.st a.object,.st a.target,.it .i64 a.scope,.st a.group,B8 a.to,.st a.text,.st a.body.nonce,.st a.body.data,.st a.body.tag,.it .i64 a.epoch,.sl .ro (a.wraps.map Bo),.it .i64 a.n,.it .i64 a.m,.it .i64 a.sig.e,.it .i64 a.sig.s]
abbrev Am(a:Ac.Act):AV:=.agg [.st a.author,.it .i64 a.seq,.st a.prev,.it .i64 a.kind,.it .i64 a.time,.st a.object,.st a.target,.it .i64 a.scope,.st a.group,B8 a.to,.st a.text,.st a.body.nonce,.st a.body.data,.st a.body.tag,.it .i64 a.epoch,.sl .ro (a.wraps.map Bo),.it .i64 a.n,.it .i64 a.m,.it .i64 a.sig.e,.it .i64 a.sig.s]
structure Sz(a:Ac.Act):Prop where
 author:a.author.length≤140737488355328
 target:a.target.length≤140737488355328
 group:a.group.length≤140737488355328
 text:a.text.length≤140737488355328
 tos:∀s∈a.to,s.length≤140737488355328
 to:a.to.length≤140737488355328
 wraps:a.wraps.length≤140737488355328
theorem GR(s:By):(s==[])=decide (s=[]):=by rw[Bool.eq_iff_iff];simp
theorem T4(n:Int):(n==0)=decide (n=0):=rfl
theorem LY{α:Type}(l:List α)[DecidableEq α]:((l.length:Int)==0)=decide (l=[]):=by
 cases l with
 |nil=>rfl
 |cons a l=>
  rw[show((((a::l).length:Nat):Int)==0)=false from CL (by simp only[List.length_cons];omega)]
  simp
theorem Gt(s:By):dig s=((s.length:Int)==32):=by
 unfold dig;rw[Bool.eq_iff_iff];simp only[decide_eq_true_eq,beq_iff_eq];omega
theorem JM(s:By):De s=decide ((s.length:Int)≤500):=by
 unfold De;rw[Bool.eq_iff_iff];simp only[decide_eq_true_eq];omega
theorem TC(b:Box):decide (b=Cd)=((b.nonce==[])&&((b.data==[])&&(b.tag==[]))):=by
 obtain⟨x,y,z⟩:=b;rw[Bool.eq_iff_iff];simp[Cd]
theorem GE(n lo hi:Int):AC prog 140 [.it .i64 n,.it .i64 lo,.it .i64 hi] [] (.bo (wi n lo hi)) []:=by
 refine Ap [] [] func140 ?_;unfold wi;by_cases h:lo≤n
 ·rw[decide_eq_true h]
  refine run ?_;exact Ad
 ·rw[decide_eq_false h]
  refine run ?_;exact Ad
theorem Xw(s:By):AC prog 226 [.st s] [] (.bo (dig s)) []:=by
 refine Ap [] [] func226 ?_;rw[Gt];refine run ?_;exact Ad
theorem Ph(s:By):AC prog 232 [.st s] [] (.bo (De s)) []:=by
 refine Ap [] [] func232 ?_;rw[JM];refine run ?_;exact Ad
theorem Pj(n:Int):AC prog 309 [.it .i64 n] [] (.bo (pub n)) []:=by
 refine Ap [140] [] func309 ?_;refine run ?_;refine cp (GE n 1 2305843009213693950) ?_;refine run ?_;exact Ad
theorem Xv(b:Box):AC prog 308 [Ko b] [] (.bo (EX b)) []:=by
 refine Ap [232] [] func308 ?_;unfold EX;by_cases h1:b.nonce.length=32
 ·rw[decide_eq_true h1]
  by_cases h2:b.tag.length=16
  ·rw[decide_eq_true h2]
   refine run ?_;refine cp (Ph b.data) ?_;refine run ?_;exact Ad
  ·rw[decide_eq_false h2]
   refine run ?_;exact Ad
 ·rw[decide_eq_false h1]
  refine run ?_;exact Ad
theorem Ue(a:Ac.Act)(hw:a.wraps.length≤140737488355328):AC prog 310 [Am a] [] (.bo (FD a)) []:=by
 refine Ap [309,308] [] func310 ?_;unfold FD;have hsz:AH 5 (a.wraps.map Bo)=true:=BM 5 Bo (fun _=>rfl) _
 refine run ?_;refine Bn (fun m e S=>e 1=.ptr 0 0∧e 6=.sl .ro (a.wraps.map Bo)∧e 7=.it .i64 (a.wraps.length:Int) ∧ ∃(k:Nat) (T:Ae),e 8=.it .i64 (k:Int)∧S=.cells (P3 a)::T∧k≤a.wraps.length∧(∀j (h:j<a.wraps.length),j<k→CQ a.wraps[j]=true)∧m=a.wraps.length-k) a.wraps.length
  ⟨Ab,Ab,Ab,0,[],Ab,rfl,by omega,fun j _ h=>absurd h (Nat.not_lt_zero _),rfl⟩ ?_
 rintro m e S ⟨s1,s6,s7,k,T,s8,rfl,hk,hall,rfl⟩
 by_cases hlt:k<a.wraps.length
 rotate_left
 ·obtain rfl:k=a.wraps.length:=by omega
  have h1:a.wraps.all CQ=true:=List.all_eq_true.2 fun x hx=>by
   obtain⟨j,hj,rfl⟩:=List.getElem_of_mem hx;exact hall j hj hj
  have h2:decide (a.wraps.length=a.to.length)=((a.wraps.length:Int)==(a.to.length:Int)):=by
   rw[Bool.eq_iff_iff];simp only[decide_eq_true_eq,beq_iff_eq];omega
  rw[h1,h2];refine Aa (A4 @s1 @s6 @s7 @s8) ?_;exact Ad
 have hg:a.wraps[k]? = some a.wraps[k]:=List.getElem?_eq_getElem hlt
 have hbad:CQ a.wraps[k]=false→a.wraps.all CQ=false:=fun h=>List.all_eq_false.2 ⟨_,List.getElem_mem hlt,by simp[h]⟩
 have hnext:CQ a.wraps[k]=true → ∀j (h:j<a.wraps.length),j<k+1→CQ a.wraps[j]=true:=fun hb j h hj=>by
  by_cases e:j=k
  ·subst e;exact hb
  ·exact hall j h (by omega)
 generalize a.wraps[k]=x at *;have hT1:∀y:SObj,(T++[y])[T.length]? = some y:=fun y=>by simp
 have hT2:∀y z:SObj,(T++[y]).set T.length z=T++[z]:=fun y z=>by simp
 have hwx:CQ x=(pub x.to&&pub x.eph&&EX x.box):=rfl;rw[hwx]at hbad hnext;refine Aa (A8 @s1 @s6 @s7 @s8 @hg @hsz @hT1 @hT2) ?_;refine cp (Pj x.to) ?_;cases h1:pub x.to with
 |false=>
  rw[h1]at hbad;rw[hbad rfl];refine Aa (A6 @s1 @s6 @s7 @s8 @hT1 @hT2) ?_;exact Ad
 | true=>
  refine Aa (A6 @s1 @s6 @s7 @s8 @hT1 @hT2) ?_;refine cp (Pj x.eph) ?_;cases h2:pub x.eph with
  |false=>
   rw[h1,h2]at hbad;rw[hbad rfl];refine Aa (A6 @s1 @s6 @s7 @s8 @hT1 @hT2) ?_;exact Ad
  | true=>
   refine Aa (A6 @s1 @s6 @s7 @s8 @hT1 @hT2) ?_;refine cp (Xv x.box) ?_;cases h3:EX x.box with
   |false=>
    rw[h1,h2,h3]at hbad;rw[hbad rfl];refine Aa (A6 @s1 @s6 @s7 @s8 @hT1 @hT2) ?_;exact Ad
   |true=>
    rw[h1,h2,h3]at hnext;refine Aa (A6 @s1 @s6 @s7 @s8 @hT1 @hT2) ?_;exact As (a.wraps.length-(k+1)) (by omega) ⟨Ab,Ab,Ab,k+1,_,Ab,rfl,by omega,hnext rfl,rfl⟩
theorem Vi(sc:Int)(g:By)(hg:g.length≤140737488355328):AC prog 307 [.it .i64 sc,.st g] [] (.bo (GM sc g)) []:=by
 refine Ap [234] [] func307 ?_;unfold GM;have hn:=GR;by_cases h2:sc=2
 ·rw[if_pos h2]
  refine run ?_;refine cp (O4 g hg) ?_;refine run ?_;exact Ad
 rw[if_neg h2];by_cases h1:sc=1
 ·rw[if_pos (.inl h1)]
  refine Aa @hn ?_;exact Ad
 by_cases h3:sc=3
 ·rw[if_pos (.inr h3)]
  refine Aa @hn ?_;exact Ad
 ·rw[if_neg (by omega)]
  refine run ?_;exact Ad
theorem Zah(a:Ac.Act)(h:Sz a):AC prog 229 [Am a] [] (.bo (ES a)) []:=by
 refine Ap [64,232,307,140,308] [] func229 ?_;unfold ES;have hn:=GR;have hz:=T4;have hb:=TC a.body;have hl:=LY a.to;refine run ?_;refine cp (L3 a.to h.tos h.to) ?_;cases h0:CI a.to with
 |false=>
  refine run ?_;exact Ad
 | true=>
  by_cases hs:a.scope=0
  ·rw[if_pos hs]
   by_cases h1:a.group=[]
   rotate_left
   ·rw[decide_eq_false h1]
    refine Aa (an @hn @h1) ?_;exact Ad
   by_cases h2:a.epoch=0
   rotate_left
   ·rw[decide_eq_true h1,decide_eq_false h2]
    refine Aa (an @hn @h1) ?_;exact Ad
   rw[decide_eq_true h1,decide_eq_true h2];refine Aa (an @hn @h1) ?_;refine cp (Ph a.text) ?_;cases h3:De a.text with
   |false=>
    refine run ?_;exact Ad
   |true=>
    rw[hb];refine run ?_;exact Ad
  ·rw [if_neg hs]
   by_cases h1:a.to=[]∨a.scope=3
   rotate_left
   ·have h2:a.to≠[]:=fun e=>h1 (.inl e)
    have h3:a.scope≠3:=fun e=>h1 (.inr e)
    have h4:(0:Int)<(a.to.length:Int):=by have :=List.length_pos_iff.2 h2;omega
    rw[decide_eq_false h2,decide_eq_false h3];refine Aa @h4 ?_;exact Ad
   have e1:(decide (a.to=[])||decide (a.scope=3))=true:=by simpa using h1
   rw[e1];have hgo:∀G:Prop,(a.to=[]→G)→(a.to≠[]→a.scope=3→G)→G:=fun G g1 g2=>by
    by_cases e:a.to=[]
    ·exact g1 e
    ·exact g2 e (h1.resolve_left e)
   refine hgo _ (fun e=>?_) (fun e e3=>?_)
   focus
    have h4:¬(0:Int)<(a.to.length:Int):=by rw[e];simp
    refine Aa @h4 ?_
   rotate_left;focus
    have h4:(0:Int)<(a.to.length:Int):=by have :=List.length_pos_iff.2 e;omega
    refine Aa (an @h4 @e3) ?_;rw[←e3]
   all_goals
    refine cp (Vi a.scope a.group h.group) ?_;cases h5:GM a.scope a.group with
    |false=>
     refine run ?_;exact Ad
    | true=>
     refine run ?_;refine cp (GE a.epoch 0 1073741824) ?_;cases h6:wi a.epoch 0 1073741824 with
     |false=>
      refine run ?_;exact Ad
     | true=>
      by_cases h7:a.text=[]
      rotate_left
      ·rw[decide_eq_false h7]
       refine Aa (an @hn @h7) ?_;exact Ad
      rw[decide_eq_true h7];refine Aa (an @hn @h7) ?_;refine cp (Xv a.body) ?_;refine run ?_;exact Ad
theorem M1(a:Ac.Act):AC prog 228 [Am a] [] (.bo (dig a.object)) []:=by
 refine Ap [226] [] func228 ?_;refine run ?_;refine cp (Xw a.object) ?_;refine run ?_;exact Ad
theorem Ol(a:Ac.Act)(h:Sz a):AC prog 230 [Am a] [] (.bo (Bg a.target)) []:=by
 refine Ap [130] [] func230 ?_;refine run ?_;refine cp (L4 a.target h.target) ?_;refine run ?_;exact Ad
theorem XL(a:Ac.Act):AC prog 235 [Am a] [] (.bo (home a)) []:=by
 refine Ap [309,140] [] func235 ?_;unfold home;refine run ?_;refine cp (Pj a.n) ?_;cases h1:pub a.n with
 |false=>refine run ?_;exact Ad
 |true=>
  refine run ?_;refine cp (GE a.m 0 19) ?_;refine run ?_;exact Ad
theorem ZhE(a:Ac.Act)(h:Sz a):AC prog 237 [Am a] [] (.bo (grant a)) []:=by
 refine Ap [307,140,64,310] [] func237 ?_;unfold grant;refine run ?_;refine cp (Vi a.scope a.group h.group) ?_;cases h1:GM a.scope a.group with
 |false=>refine run ?_;exact Ad
 | true=>
  refine run ?_;refine cp (GE a.epoch 0 1073741824) ?_;cases h2:wi a.epoch 0 1073741824 with
  |false=>refine run ?_;exact Ad
  | true=>
   refine run ?_;refine cp (L3 a.to h.tos h.to) ?_;cases h3:CI a.to with
   |false=>refine run ?_;exact Ad
   |true=>
    refine run ?_;refine cp (Ue a h.wraps) ?_;refine run ?_;exact Ad
theorem ZgP(a:Ac.Act)(h:Sz a):AC prog 238 [Am a] [] (.bo (label a)) []:=by
 refine Ap [234,228,230] [] func238 ?_;unfold label;have hn:=GR;refine run ?_;refine cp (O4 a.text h.text) ?_;cases h1:Cq a.text with
 |false=>refine run ?_;exact Ad
 | true=>
  refine run ?_;refine cp (M1 a) ?_;cases h2:dig a.object with
  | true=>
   by_cases h3:a.target=[]
   ·rw[decide_eq_true h3]
    refine Aa (an @hn @h3) ?_;exact Ad
   ·rw[decide_eq_false h3]
    refine Aa (an @hn @h3) ?_;refine cp (Ol a h) ?_;cases h4:Bg a.target with
    |false=>refine run ?_;exact Ad
    |true=>refine Aa @hn ?_;exact Ad
  |false=>
   refine run ?_;refine cp (Ol a h) ?_;cases h4:Bg a.target with
   |false=>refine run ?_;exact Ad
   |true=>refine Aa @hn ?_;exact Ad
theorem ZdP(a:Ac.Act)(h:Sz a):AC prog 239 [Am a] [] (.bo (setup a)) []:=by
 refine Ap [64,310,140,309] [] func239 ?_;unfold setup;by_cases h0:0<a.to.length
 rotate_left
 ·rw[decide_eq_false h0]
  refine run ?_;exact Ad
 rw[decide_eq_true h0];refine run ?_;refine cp (L3 a.to h.tos h.to) ?_;cases h1:CI a.to with
 |false=>refine run ?_;exact Ad
 | true=>
  refine run ?_;refine cp (Ue a h.wraps) ?_;cases h2:FD a with
  |false=>refine run ?_;exact Ad
  | true=>
   refine run ?_;refine cp (GE a.n 1 a.to.length) ?_;cases h3:wi a.n 1 a.to.length with
   |false=>refine run ?_;exact Ad
   |true=>
    refine run ?_;refine cp (Pj a.m) ?_;refine run ?_;exact Ad
theorem Zek(a:Ac.Act)(h:Sz a):AC prog 227 [Am a] [] (.bo (dig a.object&&ES a)) []:=by
 refine Ap [228,229] [] func227 ?_;refine run ?_;refine cp (M1 a) ?_;cases h1:dig a.object with
 |false=>refine run ?_;exact Ad
 |true=>
  refine run ?_;refine cp (Zah a h) ?_;refine run ?_;exact Ad
theorem Zej(a:Ac.Act):AC prog 231 [Am a] [] (.bo (dig a.object&&De a.text)) []:=by
 refine Ap [228,232] [] func231 ?_;refine run ?_;refine cp (M1 a) ?_;cases h1:dig a.object with
 |false=>refine run ?_;exact Ad
 |true=>
  refine run ?_;refine cp (Ph a.text) ?_;refine run ?_;exact Ad
theorem Zei(a:Ac.Act)(h:Sz a):AC prog 233 [Am a] [] (.bo (Cq a.text&&home a)) []:=by
 refine Ap [234,235] [] func233 ?_;refine run ?_;refine cp (O4 a.text h.text) ?_;cases h1:Cq a.text with
 |false=>refine run ?_;exact Ad
 |true=>
  refine run ?_;refine cp (XL a) ?_;refine run ?_;exact Ad
theorem Zeh(a:Ac.Act)(h:Sz a):AC prog 236 [Am a] [] (.bo (Cq a.group&&CI a.to)) []:=by
 refine Ap [234,64] [] func236 ?_;refine run ?_;refine cp (O4 a.group h.group) ?_;cases h1:Cq a.group with
 |false=>refine run ?_;exact Ad
 |true=>
  refine run ?_;refine cp (L3 a.to h.tos h.to) ?_;refine run ?_;exact Ad
theorem Zeg(a:Ac.Act):AC prog 240 [Am a] [] (.bo (dig a.object&&wi a.n 0 1)) []:=by
 refine Ap [228,140] [] func240 ?_;refine run ?_;refine cp (M1 a) ?_;cases h1:dig a.object with
 |false=>refine run ?_;exact Ad
 |true=>
  refine run ?_;refine cp (GE a.n 0 1) ?_;refine run ?_;exact Ad
theorem Zef(a:Ac.Act)(h:Sz a):AC prog 241 [Am a] [] (.bo (Bg a.target&&De a.text&&wi a.n 0 1099511627776)) []:=by
 refine Ap [230,232,140] [] func241 ?_;refine run ?_;refine cp (Ol a h) ?_;cases h1:Bg a.target with
 |false=>refine run ?_;exact Ad
 | true=>
  refine run ?_;refine cp (Ph a.text) ?_;cases h2:De a.text with
  |false=>refine run ?_;exact Ad
  |true=>
   refine run ?_;refine cp (GE a.n 0 1099511627776) ?_;refine run ?_;exact Ad
theorem ZfD(a:Ac.Act):AC prog 139 [Am a] [] (.bo (C5 a)) []:=by
 refine Ap [140,226] [] func139 ?_;unfold C5;have hn:=GR;by_cases h0:a.seq=0
 ·rw[if_pos h0]
  by_cases h1:a.kind=0
  ·rw[decide_eq_true h1]
   refine Aa @hn ?_;exact Ad
  ·rw[decide_eq_false h1]
   refine run ?_;exact Ad
 ·rw[if_neg h0]
  refine run ?_;refine cp (GE a.seq 1 1073741824) ?_;cases h1:wi a.seq 1 1073741824 with
  |false=>refine run ?_;exact Ad
  | true=>
   by_cases h2:a.kind=0
   ·rw[decide_eq_false (p:=a.kind≠0) (by simpa using h2)]
    refine run ?_;exact Ad
   ·rw[decide_eq_true (p:=a.kind≠0) h2]
    refine run ?_;refine cp (Xw a.prev) ?_;refine run ?_;exact Ad
theorem Zft(k:Int):AC prog 172 [.it .i64 k] [] (.bo (FM k)) []:=by
 refine Ap [] [] func172 ?_;unfold FM;by_cases h1:k=1
 ·rw[decide_eq_true h1]
  refine run ?_;exact Ad
 by_cases h2:k=2
 ·rw[decide_eq_false h1,decide_eq_true h2]
  refine run ?_;exact Ad
 ·rw[decide_eq_false h1,decide_eq_false h2]
  refine run ?_;exact Ad
theorem Zf9(f s:Int)(z:Bool):AC prog 242 [.it .i64 f,.bo z,.ptr 0 0] [.cells [.it .i64 s]] (.tup []) [.cells [.it .i64 (BB z f s)]]:=by
 refine Ap [] [] func242 ?_;unfold BB;cases z
 ·refine run ?_
  exact SX
 ·refine run ?_
  exact SX
theorem GQ(f s:Int)(z:Bool)(o:SObj):AC prog 242 [.it .i64 f,.bo z,.ptr 1 0] [o,.cells [.it .i64 s]] (.tup []) [o,.cells [.it .i64 (BB z f s)]]:=
 AC.at1 (T:=[o,.cells [.it .i64 s]]) (Zf9 f s z) 1 rfl rfl rfl rfl rfl
theorem ZcA(a:Ac.Act):AC prog 142 [Am a] [] (.it .i64 (JH a)) []:=by
 refine Ap [] [] func142 ?_;unfold JH;have hn:=GR;have hz:=T4;have hb:=TC a.body;have hl:=LY a.to;have hw:=LY a.wraps;rw[hb];refine Aa @hn ?_;refine AT (GQ 1 0 (decide (a.object=[])) _) ?_;generalize BB (decide (a.object=[])) 1 0=s at *;refine Aa @hn ?_;refine AT (GQ 2 s (decide (a.target=[])) _) ?_;generalize BB (decide (a.target=[])) 2 s=s at *;refine Aa @hz ?_;refine AT (GQ 4 s (decide (a.scope=0)) _) ?_;generalize BB (decide (a.scope=0)) 4 s=s at *;refine Aa @hn ?_;refine AT (GQ 8 s (decide (a.group=[])) _) ?_;generalize BB (decide (a.group=[])) 8 s=s at *;refine Aa @hl ?_;refine AT (GQ 16 s (decide (a.to=[])) _) ?_;generalize BB (decide (a.to=[])) 16 s=s at *;refine Aa @hn ?_;refine AT (GQ 32 s (decide (a.text=[])) _) ?_;generalize BB (decide (a.text=[])) 32 s=s at *;refine Aa @hn ?_;refine AT (GQ 64 s (decide (a.body.nonce=[])&&(decide (a.body.data=[])&&decide (a.body.tag=[]))) _) ?_;generalize BB (decide (a.body.nonce=[])&&(decide (a.body.data=[])&&decide (a.body.tag=[]))) 64 s=s at *;refine Aa @hz ?_;refine AT (GQ 128 s (decide (a.epoch=0)) _) ?_;generalize BB (decide (a.epoch=0)) 128 s=s at *;refine Aa @hw ?_;refine AT (GQ 256 s (decide (a.wraps=[])) _) ?_;generalize BB (decide (a.wraps=[])) 256 s=s at *;refine Aa @hz ?_;refine AT (GQ 512 s (decide (a.n=0)) _) ?_;generalize BB (decide (a.n=0)) 512 s=s at *;refine Aa @hz ?_;refine AT (GQ 1024 s (decide (a.m=0)) _) ?_;generalize BB (decide (a.m=0)) 1024 s=s at *;refine run ?_;exact Ad
def QY:Ru→FuncId
 |.begin=>233
 |.post=>229
 |.reply=>227
 |.about=>228
 |.tie=>230
 |.reason=>231
 |.circle=>236
 |.grant=>237
 |.label=>238
 |.move=>235
 |.setup=>239
 |.judge=>240
 |.list=>241
theorem Zen(a:Ac.Act)(h:Sz a)(r:Ru):AC prog (QY r) [Am a] [] (.bo (r.ok a)) []:=by
 cases r
 ·exact Zei a h
 ·exact Zah a h
 ·exact Zek a h
 ·exact M1 a
 ·exact Ol a h
 ·exact Zej a
 ·exact Zeh a h
 ·exact ZhE a h
 ·exact ZgP a h
 ·exact XL a
 ·exact ZdP a h
 ·exact Zeg a
 ·exact Zef a h
def MM(r:Ru):AV:=.agg [.it .i64 r.mask,.fn (.func (QY r)) [] []]
def MN:List (AV×AV):=LJ.map fun p=>(.it .i64 p.1,MM p.2)
theorem Xh(k:Int):∀(l:List (Int×Ru)) (i:Nat),(l.lookup k=none∧DT (.it .i64 k) (l.map fun p=>(.it .i64 p.1,MM p.2)) i=some none)∨(∃r j,l.lookup k=some r∧DT (.it .i64 k) (l.map fun p=>(.it .i64 p.1,MM p.2)) i=some (some (j,MM r)))
 |[],i=>.inl ⟨rfl,rfl⟩
 |(k',r)::l,i=>by
  have hk:FP (.it .i64 k) (.it .i64 k')=some (k==k'):=rfl;rw[List.map_cons,List.lookup_cons];unfold DT;rw[hk];cases e:k==k' with
  |true=>exact .inr ⟨r,i,rfl,rfl⟩
  |false=>exact Xh k l (i+1)
theorem Zeo:(SObj.map MN).ok 0=true:=by decide +kernel
theorem Zee:AC prog 141 [] [] (.fm MN) []:=by
 refine Ap [] [] func141 ?_;refine run ?_;exact Yz _ _ (Aq.freeze 0 0 4 (es:=MN) (by rfl) (by rfl) Zeo) [] (by rfl) (UP _) (by rfl) (by rfl) (by rfl)
theorem LM(a:Ac.Act)(h:Sz a):AC prog 73 [Am a] [] (.bo (right a)) []:=by
 refine Ap [141,130,139,140,142,1000050] [] func73 ?_;unfold right;refine run ?_;refine cp (L4 a.author h.author) ?_;cases h1:Bg a.author with
 |false=>refine run ?_;exact Ad
 | true =>
  refine run ?_;refine cp (ZfD a) ?_;cases h2:C5 a with
  |false=>refine run ?_;exact Ad
  | true=>
   refine run ?_;refine cp (GE a.time 0 1099511627776) ?_;cases h3:wi a.time 0 1099511627776 with
   |false=>refine run ?_;exact Ad
   | true=>
    unfold Bu;refine run ?_;refine cp (GE a.sig.e 0 2305843009213693949) ?_;cases h4:wi a.sig.e 0 2305843009213693949 with
    |false=>refine run ?_;exact Ad
    | true=>
     refine run ?_;refine cp (GE a.sig.s 0 2305843009213693949) ?_;cases h5:wi a.sig.s 0 2305843009213693949 with
     |false=>refine run ?_;exact Ad
     | true=>
      refine run ?_;refine cp Zee ?_;rcases Xh a.kind LJ 0 with⟨hr,hk⟩|⟨r,j,hr,hk⟩
      ·change DT _ MN 0=_ at hk
       change F7 a.kind=_ at hr;rw[hr];refine Aa @hk ?_;exact Ad
      ·change DT _ MN 0=_ at hk
       change F7 a.kind=_ at hr;rw[hr];have hv:MM r=.agg [.it .i64 r.mask,.fn (.func (QY r)) [] []]:=rfl;rw[hv]at hk;refine Aa @hk ?_;refine cp (ZcA a) ?_;by_cases hu:Go.bits .andNot .i64 (JH a) r.mask=0
       ·rw[decide_eq_true hu]
        have hrc:=Zen a h r;refine Aa @hu ?_;refine cp hrc ?_;refine run ?_;exact Ad
       ·have hb:(Go.bits .andNot .i64 (JH a) r.mask==0)=false:=by simpa using hu
        rw[decide_eq_false hu];refine Aa @hb ?_;exact Ad
end Pe
namespace Pe
open Tryz
open Go Go.RowKit Co Sg Ac
set_option maxRecDepth 100000
set_option maxHeartbeats 4000000
theorem AC.empties[Tab]{P:Program}{f:FuncId}{m:Mode}{rest:List AV}{S S':Ae}{v:AV}(h:∀(A:Option Addr) (c:Nat),AC P f (.ot (.slice A 0 c)::rest) S v S'):AC P f (.sl m []::rest) S v S':=by
 refine⟨(h none 0).can,fun w g cargs hw hargs=>?_⟩
 obtain⟨h1,h2⟩:=hargs;have h0:0<cargs.size:=by rw[h1];simp
 have hr:=h2 0 _ cargs[0] rfl (Array.getElem?_eq_getElem h0)
 generalize hcv:cargs[0]=cv at hr;cases hr with
 | sl _ _ _ A c sz cu hc hcm hsz hA h1' hr' hm=>
  refine(h A c).run w g cargs hw ⟨by simpa using h1,fun j u v hu hv=>?_⟩
  cases j with
  |zero=>
   simp only[List.getElem?_cons_zero,Option.some.injEq]at hu
   subst hu;rw[Array.getElem?_eq_getElem h0,hcv]at hv
   cases hv
   exact .ot _ _ rfl
  |succ j=>exact h2 (j+1) u v (by simpa using hu) hv
theorem Yw(l r:List By)(hl:l.length≤140737488355328)(hr:r.length≤140737488355328):AC prog 274 [.sl .ro (l.map AV.st),.sl .ro (r.map AV.st)] [] (.bo (decide (l=r))) []:=by
 refine Ap [] [] func274 ?_;by_cases hlen:l.length=r.length
 rotate_left
 ·rw[decide_eq_false (fun e=>hlen (by rw[e]))]
  refine run ?_;exact Ad
 have hs1:AH 1 (l.map AV.st)=true:=BM 1 AV.st (fun _=>rfl) _
 have hs2:AH 1 (r.map AV.st)=true:=BM 1 AV.st (fun _=>rfl) _
 refine run ?_;refine Bn (fun m e S=>S=[]∧e 0=.sl .ro (l.map AV.st)∧e 1=.sl .ro (r.map AV.st)∧e 12=.it .i64 (l.length:Int) ∧ ∃k:Nat,e 13=.it .i64 (k:Int)∧k≤l.length∧l.take k=r.take k∧m=l.length-k) l.length ⟨rfl,Ab,Ab,Ab,0,Ab,by omega,rfl,rfl⟩ ?_
 rintro m e S ⟨rfl,s0,s1,s12,k,s13,hk,htk,rfl⟩
 by_cases hlt:k<l.length
 rotate_left
 ·obtain rfl:k=l.length:=by omega
  rw[List.take_length,List.take_of_length_le (by omega)]at htk
  rw[decide_eq_true htk];refine Aa (A4 @s0 @s1 @s12 @s13) ?_;exact Ad
 have g1:l[k]? = some l[k]:=List.getElem?_eq_getElem hlt
 have g2:r[k]? = some (r[k]'(by omega)):=List.getElem?_eq_getElem (by omega)
 have hbad:l[k]≠r[k]'(by omega)→l≠r:=fun h e=>h (by subst e;rfl)
 have hgood:l[k]=r[k]'(by omega)→l.take (k+1)=r.take (k+1):=fun h=>by
  rw[List.take_succ_eq_append_getElem hlt,List.take_succ_eq_append_getElem (by omega:k<r.length),htk,h]
 generalize l[k]=x at *;generalize r[k]'_=y at *;by_cases hxy:x=y
 ·subst hxy
  have hg:=hgood rfl;clear hgood hbad htk;refine Aa (A8 @s0 @s1 @s12 @s13 @g1 @g2 @hs1 @hs2) ?_;exact As (l.length-(k+1)) (by omega) ⟨rfl,Ab,Ab,Ab,k+1,Ab,by omega,hg,rfl⟩
 ·rw[decide_eq_false (hbad hxy)]
  clear hgood hbad htk;have e1:(x==y)=false:=by simpa using hxy
  refine Aa (A9 @s0 @s1 @s12 @s13 @g1 @g2 @hs1 @hs2 @e1) ?_;exact Ad
theorem Zif(l r:List Wrap)(hl:l.length≤140737488355328)(hr:r.length≤140737488355328):AC prog 275 [.sl .ro (l.map Bo),.sl .ro (r.map Bo)] [] (.bo (decide (l=r))) []:=by
 refine Ap [] [] func275 ?_;by_cases hlen:l.length=r.length
 rotate_left
 ·rw[decide_eq_false (fun e=>hlen (by rw[e]))]
  refine run ?_;exact Ad
 have hs1:AH 5 (l.map Bo)=true:=BM 5 Bo (fun _=>rfl) _
 have hs2:AH 5 (r.map Bo)=true:=BM 5 Bo (fun _=>rfl) _
 refine run ?_;refine Bn (fun m e S=>S=[]∧e 0=.sl .ro (l.map Bo)∧e 1=.sl .ro (r.map Bo)∧e 12=.it .i64 (l.length:Int) ∧ ∃k:Nat,e 13=.it .i64 (k:Int)∧k≤l.length∧l.take k=r.take k∧m=l.length-k) l.length ⟨rfl,Ab,Ab,Ab,0,Ab,by omega,rfl,rfl⟩ ?_
 rintro m e S ⟨rfl,s0,s1,s12,k,s13,hk,htk,rfl⟩
 by_cases hlt:k<l.length
 rotate_left
 ·obtain rfl:k=l.length:=by omega
  rw[List.take_length,List.take_of_length_le (by omega)]at htk
  rw[decide_eq_true htk];refine Aa (A4 @s0 @s1 @s12 @s13) ?_;exact Ad
 have g1:l[k]? = some l[k]:=List.getElem?_eq_getElem hlt
 have g2:r[k]? = some (r[k]'(by omega)):=List.getElem?_eq_getElem (by omega)
 have hbad:l[k]≠r[k]'(by omega)→l≠r:=fun h e=>h (by subst e;rfl)
 have hgood:l[k]=r[k]'(by omega)→l.take (k+1)=r.take (k+1):=fun h=>by
  rw[List.take_succ_eq_append_getElem hlt,List.take_succ_eq_append_getElem (by omega:k<r.length),htk,h]
 generalize l[k]=x at *;generalize r[k]'_=y at *;by_cases hxy:x=y
 ·subst hxy
  have hg:=hgood rfl;clear hgood hbad htk;refine Aa (A8 @s0 @s1 @s12 @s13 @g1 @g2 @hs1 @hs2) ?_;exact As (l.length-(k+1)) (by omega) ⟨rfl,Ab,Ab,Ab,k+1,Ab,by omega,hg,rfl⟩
 ·rw[decide_eq_false (hbad hxy)]
  clear hgood hbad htk;have e1:((x.to==y.to)&&((x.eph==y.eph)&&(((x.box.nonce==y.box.nonce)&&((x.box.data==y.box.data)&&(x.box.tag==y.box.tag))))))=false:=by
   obtain⟨x1,x2,x3,x4,x5⟩:=x;obtain⟨y1,y2,y3,y4,y5⟩:=y;rw[Bool.eq_false_iff];intro h;simp only[Bool.and_eq_true,beq_iff_eq]at h;obtain⟨rfl,rfl,rfl,rfl,rfl⟩:=h;exact hxy rfl
  refine Aa (A9 @s0 @s1 @s12 @s13 @g1 @g2 @hs1 @hs2 @e1) ?_;exact Ad
theorem Zd2(a b:Ac.Act)(ha:a.to.length≤140737488355328∧a.wraps.length≤140737488355328)(hb:b.to.length≤140737488355328∧b.wraps.length≤140737488355328):AC prog 179 [Am a,Am b] [] (.bo (decide (a=b))) []:=by
 refine Ap [274,275] [] func179 ?_;obtain⟨q,hq⟩:∃q,decide (a=b)=q:=⟨_,rfl⟩
 rw[hq];obtain⟨a_author,a_seq,a_prev,a_kind,a_time,a_object,a_target,a_scope,a_group,a_to,a_text,⟨a_bn,a_bd,a_bt⟩,a_epoch,a_wraps,a_n,a_m,⟨a_se,a_ss⟩⟩:=a;obtain⟨b_author,b_seq,b_prev,b_kind,b_time,b_object,b_target,b_scope,b_group,b_to,b_text,⟨b_bn,b_bd,b_bt⟩,b_epoch,b_wraps,b_n,b_m,⟨b_se,b_ss⟩⟩:=b;by_cases h_author:a_author=b_author
 rotate_left
 ·obtain rfl:q=false:=by rw[←hq];exact decide_eq_false (fun e=>h_author (by cases e;rfl))
  have e_author:(a_author==b_author)=false:=by simpa using h_author
  refine Aa @e_author ?_;exact Ad
 subst h_author;by_cases h_seq:a_seq=b_seq
 rotate_left
 ·obtain rfl:q=false:=by rw[←hq];exact decide_eq_false (fun e=>h_seq (by cases e;rfl))
  refine run ?_;exact Ad
 subst h_seq;by_cases h_prev:a_prev=b_prev
 rotate_left
 ·obtain rfl:q=false:=by rw[←hq];exact decide_eq_false (fun e=>h_prev (by cases e;rfl))
  have e_prev:(a_prev==b_prev)=false:=by simpa using h_prev
  refine Aa @e_prev ?_;exact Ad
 subst h_prev;by_cases h_kind:a_kind=b_kind
 rotate_left
 ·obtain rfl:q=false:=by rw[←hq];exact decide_eq_false (fun e=>h_kind (by cases e;rfl))
  refine run ?_;exact Ad
 subst h_kind;by_cases h_time:a_time=b_time
 rotate_left
 ·obtain rfl:q=false:=by rw[←hq];exact decide_eq_false (fun e=>h_time (by cases e;rfl))
  refine run ?_;exact Ad
 subst h_time;by_cases h_object:a_object=b_object
 rotate_left
 ·obtain rfl:q=false:=by rw[←hq];exact decide_eq_false (fun e=>h_object (by cases e;rfl))
  have e_object:(a_object==b_object)=false:=by simpa using h_object
  refine Aa @e_object ?_;exact Ad
 subst h_object;by_cases h_target:a_target=b_target
 rotate_left
 ·obtain rfl:q=false:=by rw[←hq];exact decide_eq_false (fun e=>h_target (by cases e;rfl))
  have e_target:(a_target==b_target)=false:=by simpa using h_target
  refine Aa @e_target ?_;exact Ad
 subst h_target;by_cases h_scope:a_scope=b_scope
 rotate_left
 ·obtain rfl:q=false:=by rw[←hq];exact decide_eq_false (fun e=>h_scope (by cases e;rfl))
  refine run ?_;exact Ad
 subst h_scope;by_cases h_group:a_group=b_group
 rotate_left
 ·obtain rfl:q=false:=by rw[←hq];exact decide_eq_false (fun e=>h_group (by cases e;rfl))
  have e_group:(a_group==b_group)=false:=by simpa using h_group
  refine Aa @e_group ?_;exact Ad
 subst h_group;refine run ?_;refine cp (Yw a_to b_to ha.1 hb.1) ?_;by_cases h_to:a_to=b_to
 rotate_left
 ·obtain rfl:q=false:=by rw[←hq];exact decide_eq_false (fun e=>h_to (by cases e;rfl))
  rw[decide_eq_false h_to];refine run ?_;exact Ad
 subst h_to;rw[decide_eq_true (p:=a_to=a_to) rfl];by_cases h_text:a_text=b_text
 rotate_left
 ·obtain rfl:q=false:=by rw[←hq];exact decide_eq_false (fun e=>h_text (by cases e;rfl))
  have e_text:(a_text==b_text)=false:=by simpa using h_text
  refine Aa @e_text ?_;exact Ad
 subst h_text;by_cases h_bn:a_bn=b_bn
 rotate_left
 ·obtain rfl:q=false:=by rw[←hq];exact decide_eq_false (fun e=>h_bn (by cases e;rfl))
  have e_bn:(a_bn==b_bn)=false:=by simpa using h_bn
  refine Aa @e_bn ?_;exact Ad
 subst h_bn;by_cases h_bd:a_bd=b_bd
 rotate_left
 ·obtain rfl:q=false:=by rw[←hq];exact decide_eq_false (fun e=>h_bd (by cases e;rfl))
  have e_bd:(a_bd==b_bd)=false:=by simpa using h_bd
  refine Aa @e_bd ?_;exact Ad
 subst h_bd;by_cases h_bt:a_bt=b_bt
 rotate_left
 ·obtain rfl:q=false:=by rw[←hq];exact decide_eq_false (fun e=>h_bt (by cases e;rfl))
  have e_bt:(a_bt==b_bt)=false:=by simpa using h_bt
  refine Aa @e_bt ?_;exact Ad
 subst h_bt;by_cases h_epoch:a_epoch=b_epoch
 rotate_left
 ·obtain rfl:q=false:=by rw[←hq];exact decide_eq_false (fun e=>h_epoch (by cases e;rfl))
  refine run ?_;exact Ad
 subst h_epoch;refine run ?_;refine cp (Zif a_wraps b_wraps ha.2 hb.2) ?_;by_cases h_wraps:a_wraps=b_wraps
 rotate_left
 ·obtain rfl:q=false:=by rw[←hq];exact decide_eq_false (fun e=>h_wraps (by cases e;rfl))
  rw[decide_eq_false h_wraps];refine run ?_;exact Ad
 subst h_wraps;rw[decide_eq_true (p:=a_wraps=a_wraps) rfl];by_cases h_n:a_n=b_n
 rotate_left
 ·obtain rfl:q=false:=by rw[←hq];exact decide_eq_false (fun e=>h_n (by cases e;rfl))
  refine run ?_;exact Ad
 subst h_n;by_cases h_m:a_m=b_m
 rotate_left
 ·obtain rfl:q=false:=by rw[←hq];exact decide_eq_false (fun e=>h_m (by cases e;rfl))
  refine run ?_;exact Ad
 subst h_m;by_cases h_se:a_se=b_se
 rotate_left
 ·obtain rfl:q=false:=by rw[←hq];exact decide_eq_false (fun e=>h_se (by cases e;rfl))
  refine run ?_;exact Ad
 subst h_se;by_cases h_ss:a_ss=b_ss
 rotate_left
 ·obtain rfl:q=false:=by rw[←hq];exact decide_eq_false (fun e=>h_ss (by cases e;rfl))
  refine run ?_;exact Ad
 subst h_ss;obtain rfl:q=true:=by rw[←hq];exact decide_eq_true rfl
 refine run ?_;exact Ad
theorem Tq(l:List By)(hl:l.length≤1000000):AC prog 60 [.sl .ro (l.map AV.st)] [] (.sl .ro (l.map AV.st)) []:=by
 cases l with
 | nil=>
  refine AC.empties fun A c=>?_
  refine Ap [] [] func60 ?_;cases A with
  |none=>
   refine run ?_;exact AQ
  |some A=>
   refine run ?_;exact AQ
 |cons x l=>
  have hs1:AH 1 ((x::l).map AV.st)=true:=BM 1 AV.st (fun _=>rfl) _
  have hl':l.length≤1000000:=by simp only[List.length_cons]at hl;omega
  simp only[List.map_cons]at hs1 ⊢;refine Ap [] [] func60 ?_;refine Aa @hs1 ?_;exact AQ
theorem Zo(l:List Wrap)(hl:l.length≤1000000):AC prog 61 [.sl .ro (l.map Bo)] [] (.sl .ro (l.map Bo)) []:=by
 cases l with
 | nil=>
  refine AC.empties fun A c=>?_
  refine Ap [] [] func61 ?_;cases A with
  |none=>
   refine run ?_;exact AQ
  |some A=>
   refine run ?_;exact AQ
 |cons x l=>
  have hs1:AH 5 ((x::l).map Bo)=true:=BM 5 Bo (fun _=>rfl) _
  have hl':l.length≤1000000:=by simp only[List.length_cons]at hl;omega
  simp only[List.map_cons]at hs1 ⊢;refine Ap [] [] func61 ?_;refine Aa @hs1 ?_;exact AQ
theorem ZK(b:Box)(h:b.nonce.length≤1000000∧b.data.length≤1000000∧b.tag.length≤1000000):AC prog 170 [Ko b] [] (.st (FW b)) []:=by
 refine Ap [66] [] func170 ?_;have l1:=Be h.1;have l2:=Be h.2.1;have l3:=Be h.2.2;unfold FW;refine run ?_;refine cp (C2 b.nonce (by omega)) ?_
 refine run ?_;refine cp (C2 b.data (by omega)) ?_
 refine run ?_;refine cp (C2 b.tag (by omega)) ?_
 refine run ?_;exact Ad
theorem NM(b:Box)(h:b.nonce.length≤1000000∧b.data.length≤1000000∧b.tag.length≤1000000):(FW b).length≤3000027:=by
 have l1:=Be h.1;have l2:=Be h.2.1;have l3:=Be h.2.2;unfold FW;simp only[List.length_append];omega
theorem N6{w:Wrap}(h:CQ w=true):(1≤w.to∧w.to≤2305843009213693950)∧(1≤w.eph∧w.eph≤2305843009213693950)∧w.box.nonce.length≤1000000∧w.box.data.length≤1000000∧w.box.tag.length≤1000000:=by
 simp only[CQ,pub,Bool.and_eq_true,Ch]at h;have :=QV h.2;omega
theorem Zb6{w:Wrap}(h:CQ w=true):(Cw w).length≤3000045:=by
 have h':=N6 h;have :=NM w.box h'.2.2;have h1:=AD w.to (by omega)
 have h2:=AD w.eph (by omega)
 unfold Cw;simp only[List.length_append];omega
theorem Ub{l:List Wrap}(hw:∀w∈l,CQ w=true)(hl:l.length≤64)(k:Nat):((l.take k).map Cw).flatten.length≤192002880:=by
 have hx:∀m:List Wrap,(∀w∈m,CQ w=true)→(m.map Cw).flatten.length≤m.length*3000045:=fun m=>by
  induction m with
  |nil=>intro _;simp
  |cons w m ih=>
   intro h;have h1:=Zb6 (h w (by simp))
   have h2:=ih fun x hx=>h x (by simp[hx])
   rw[List.map_cons,List.flatten_cons,List.length_append,List.length_cons,Nat.succ_mul];omega
 have h1:=hx (l.take k) fun w h=>hw w (List.mem_of_mem_take h)
 have h2:(l.take k).length*3000045≤64*3000045:=Nat.mul_le_mul_right _ (by rw[List.length_take];omega)
 omega
def JR(a:Ac.Act):By:=
 text F5++text a.author++Ah a.seq++text a.prev++(Ah a.kind++Ah a.time++text a.object++text a.target)++(Ah a.scope++text a.group++list a.to++text a.text)++(FW a.body++Ah a.epoch++num a.wraps.length)
theorem Zi5(a:Ac.Act):G0 a=JR a++(a.wraps.map Cw).flatten++Ah a.n++Ah a.m:=by
 unfold G0 JR;simp only[List.append_assoc]
theorem Tm(a:Ac.Act)(h:Sz a):AC prog 96 [Am a] [] (.st (Bq a)) []:=by
 refine Ap [73,66,67,169,170] [] func96 ?_;unfold Bq;refine run ?_;refine cp (LM a h) ?_;cases hr:right a with
 |false=>rw[if_neg (by simp)];refine run ?_;exact Ad
 | true=>
  rw[if_pos rfl];have sm:=C3 hr;have q1:=Be (s:=F5) (by simp)
  have q2:=Be (s:=a.author) (by have :=sm.author;omega)
  have q3:=AD a.seq (by have :=sm.seq;omega)
  have q4:=Be (s:=a.prev) (by have :=sm.prev;omega)
  have q5:=AD a.kind (by have :=sm.kind;omega)
  have q6:=AD a.time (by have :=sm.time;omega)
  have q7:=Be (s:=a.object) (by have :=sm.object;omega)
  have q8:=Be (s:=a.target) (by have :=sm.target;omega)
  have q9:=AD a.scope (by have :=sm.scope;omega)
  have q10:=Be (s:=a.group) (by have :=sm.group;omega)
  have q11:=W6 (l:=a.to) (by have :=sm.to;omega) (fun x hx=>by have :=sm.to.2 x hx;omega)
  have q12:=Be (s:=a.text) (by have :=sm.text;omega)
  have q13:=NM a.body (by have :=sm.body;omega)
  have q14:=AD a.epoch (by have :=sm.epoch;omega)
  have q15:=EL (n:=a.wraps.length) (by have :=sm.wraps;omega)
  have q16:=AD a.n (by have :=sm.n;omega)
  have q17:=AD a.m (by have :=sm.m;omega)
  have k1:=C2 F5 (by simp)
  have k2:=C2 a.author (by have :=sm.author;omega)
  have k3:=BQ a.seq (by have :=sm.seq;omega) (by have :=sm.seq;omega)
  have k4:=C2 a.prev (by have :=sm.prev;omega)
  have k5:=BQ a.kind (by have :=sm.kind;omega) (by have :=sm.kind;omega)
  have k6:=BQ a.time (by have :=sm.time;omega) (by have :=sm.time;omega)
  have k7:=C2 a.object (by have :=sm.object;omega)
  have k8:=C2 a.target (by have :=sm.target;omega)
  have k9:=BQ a.scope (by have :=sm.scope;omega) (by have :=sm.scope;omega)
  have k10:=C2 a.group (by have :=sm.group;omega)
  have k11:=R3 a.to (by have :=sm.to;omega) (fun x hx=>by have :=sm.to.2 x hx;omega)
  have k12:=C2 a.text (by have :=sm.text;omega)
  have k13:=ZK a.body (by have :=sm.body;omega)
  have k14:=BQ a.epoch (by have :=sm.epoch;omega) (by have :=sm.epoch;omega)
  have k15:=BQ (a.wraps.length:Int) (by have :=sm.wraps;omega) (by omega)
  rw[I6]at k15;have k16:=BQ a.n (by have :=sm.n;omega) (by have :=sm.n;omega)
  have k17:=BQ a.m (by have :=sm.m;omega) (by have :=sm.m;omega)
  have hwr:=sm.wraps;have hlp:(JR a).length≤2000000000000:=by
   unfold JR;simp only[List.length_append];omega
  rw[Zi5];have hsz:AH 5 (a.wraps.map Bo)=true:=BM 5 Bo (fun _=>rfl) _
  clear hr sm h;refine run ?_;refine cp k1 ?_;refine run ?_;refine cp k2 ?_;refine run ?_;refine cp k3 ?_;refine run ?_;refine cp k4 ?_;refine run ?_;refine cp k5 ?_;refine run ?_;refine cp k6 ?_;refine run ?_;refine cp k7 ?_;refine run ?_;refine cp k8 ?_;refine run ?_;refine cp k9 ?_;refine run ?_;refine cp k10 ?_;refine run ?_;refine cp k11 ?_;refine run ?_;refine cp k12 ?_;refine run ?_;refine cp k13 ?_;refine run ?_;refine cp k14 ?_;refine run ?_;refine cp k15 ?_;clear k1 k2 k3 k4 k5 k6 k7 k8 k9 k10 k11 k12 k13 k14 k15;refine run ?_;refine Bn (fun m e S=>e 1=.ptr 0 0∧e 71=.sl .ro (a.wraps.map Bo)∧e 72=.it .i64 (a.wraps.length:Int) ∧ ∃(k:Nat) (T:Ae),e 73=.it .i64 (k:Int)∧e 3=.st (JR a++((a.wraps.take k).map Cw).flatten)∧S=.cells (P3 a)::T∧k≤a.wraps.length∧m=a.wraps.length-k) a.wraps.length
   ⟨Ab,Ab,Ab,0,[],Ab,by rw[List.take_zero,List.map_nil,List.flatten_nil,List.append_nil];exact Ab,rfl,by omega,rfl⟩ ?_
  clear q1 q2 q3 q4 q5 q6 q7 q8 q9 q10 q11 q12 q13 q14 q15;rintro m e S ⟨s1,s71,s72,k,T,s73,s3,rfl,hk,rfl⟩
  have hlen:=Ub hwr.2 hwr.1 k;by_cases hlt:k<a.wraps.length
  rotate_left
  ·obtain rfl:k=a.wraps.length:=by omega
   rw[List.take_length]at s3 hlen;generalize (a.wraps.map Cw).flatten=z at *;generalize JR a=p at *;refine Aa (A5 @s1 @s71 @s72 @s73 @s3) ?_;refine cp k16 ?_;refine Aa (A5 @s1 @s71 @s72 @s73 @s3) ?_;refine cp k17 ?_;refine Aa (A5 @s1 @s71 @s72 @s73 @s3) ?_;exact Ad
  have hg:a.wraps[k]? = some a.wraps[k]:=List.getElem?_eq_getElem hlt
  have hx:=hwr.2 a.wraps[k] (List.getElem_mem hlt);have hstep:((a.wraps.take (k+1)).map Cw).flatten=((a.wraps.take k).map Cw).flatten++Cw a.wraps[k]:=by
   rw[List.take_succ_eq_append_getElem hlt,List.map_append,List.flatten_append];congr 1
   exact List.append_nil _
  have hT1:∀y:SObj,(T++[y])[T.length]? = some y:=fun y=>by simp
  have hT2:∀y z:SObj,(T++[y]).set T.length z=T++[z]:=fun y z=>by simp
  generalize a.wraps[k]=x at *;have hx':=N6 hx;have hbl:=NM x.box hx'.2.2;have hn1:=AD x.to (by omega)
  have hn2:=AD x.eph (by omega)
  generalize ((a.wraps.take k).map Cw).flatten=z at *;generalize JR a=p at *;have hwl:=hwr.1;clear k16 k17 q16 q17 hwr;refine Aa (A9 @s1 @s71 @s72 @s73 @s3 @hg @hsz @hT1 @hT2) ?_;refine cp (BQ x.to (by omega) (by omega)) ?_
  refine Aa (A7 @s1 @s71 @s72 @s73 @s3 @hT1 @hT2) ?_;refine cp (BQ x.eph (by omega) (by omega)) ?_
  refine Aa (A7 @s1 @s71 @s72 @s73 @s3 @hT1 @hT2) ?_;refine cp (ZK x.box hx'.2.2) ?_;refine Aa (A7 @s1 @s71 @s72 @s73 @s3 @hT1 @hT2) ?_;exact As (a.wraps.length-(k+1)) (by omega) ⟨Ab,Ab,Ab,k+1,_,Ab,by rw[hstep];unfold Cw;simp only[List.append_assoc];exact Ab,rfl,by omega,rfl⟩
theorem Tl{a:Ac.Act}:(Bq a).length≤100000:=by
 unfold Bq;split
 ·rename_i hr
  have sm:=C3 hr;have q1:(text F5).length=4:=by rfl
  have tl:∀(s:By) (n:Nat),s.length≤n→n≤1000→(text s).length≤n+9:=fun s n h h'=>by
   have :=EL (n:=s.length) (by omega)
   unfold text;rw[List.length_append];omega
  have q2:=tl a.author 16 (by have :=sm.author;omega) (by omega)
  have q3:=AD a.seq (by have :=sm.seq;omega)
  have q4:=tl a.prev 32 (by have :=sm.prev;omega) (by omega)
  have q5:=AD a.kind (by have :=sm.kind;omega)
  have q6:=AD a.time (by have :=sm.time;omega)
  have q7:=tl a.object 32 (by have :=sm.object;omega) (by omega)
  have q8:=tl a.target 16 (by have :=sm.target;omega) (by omega)
  have q9:=AD a.scope (by have :=sm.scope;omega)
  have q10:=tl a.group 24 (by have :=sm.group;omega) (by omega)
  have q12:=tl a.text 500 (by have :=sm.text;omega) (by omega)
  have bl:∀b:Box,b.nonce.length≤32∧b.data.length≤500∧b.tag.length≤16→(FW b).length≤575:=fun b h=>by
   have l1:=tl b.nonce 32 h.1 (by omega)
   have l2:=tl b.data 500 h.2.1 (by omega)
   have l3:=tl b.tag 16 h.2.2 (by omega)
   unfold FW;simp only[List.length_append];omega
  have q13:=bl a.body sm.body;have q14:=AD a.epoch (by have :=sm.epoch;omega)
  have q15:=EL (n:=a.wraps.length) (by have :=sm.wraps;omega)
  have q16:=AD a.n (by have :=sm.n;omega)
  have q17:=AD a.m (by have :=sm.m;omega)
  have q11:(list a.to).length≤2000:=by
   have h1:=EL (n:=a.to.length) (by have :=sm.to;omega)
   have h2:∀l:List By,(∀s∈l,s.length=16)→(l.map text).flatten.length≤l.length*25:=fun l=>by
    induction l with
    |nil=>intro _;simp
    |cons s l ih=>
     intro h;have e1:=tl s 16 (by have :=h s (by simp);omega) (by omega)
     have e2:=ih fun x hx=>h x (by simp[hx])
     rw[List.map_cons,List.flatten_cons,List.length_append,List.length_cons,Nat.succ_mul];omega
   have h3:=h2 a.to sm.to.2;have h4:a.to.length*25≤64*25:=Nat.mul_le_mul_right _ sm.to.1;unfold list;rw[List.length_append];omega
  have q18:(a.wraps.map Cw).flatten.length≤40000:=by
   have h2:∀l:List Wrap,(∀w∈l,CQ w=true)→(l.map Cw).flatten.length≤l.length*593:=fun l=>by
    induction l with
    |nil=>intro _;simp
    | cons w l ih=>
     intro h;have hw:=h w (by simp)
     have hw2:=N6 hw;simp only[CQ,Bool.and_eq_true]at hw;have hb:=QV hw.2;have e0:=bl w.box (by omega)
     have e1:=AD w.to (by omega)
     have e2:=AD w.eph (by omega)
     have e3:=ih fun x hx=>h x (by simp[hx])
     have e4:(Cw w).length≤593:=by
      unfold Cw;simp only[List.length_append];omega
     rw[List.map_cons,List.flatten_cons,List.length_append,List.length_cons,Nat.succ_mul];omega
   have h3:=h2 a.wraps sm.wraps.2;have h4:a.wraps.length*593≤64*593:=Nat.mul_le_mul_right _ sm.wraps.1;omega
  unfold G0;simp only[List.length_append];omega
 ·simp
theorem NE{a:Ac.Act}:(Bq a).length≤100000000:=Nat.le_trans Tl (by omega)
theorem TA{a:Ac.Act}:(Ac.bytes a).length≤100018:=by
 unfold Ac.bytes;split
 ·rename_i hr
  have sm:=(C3 hr).sig;simp only[Bu,Bool.and_eq_true,Ch]at sm;have h:=Tl (a:=a);unfold Bq at h;rw[if_pos hr]at h;have n1:=AD a.sig.e (by omega)
  have n2:=AD a.sig.s (by omega)
  simp only[List.length_append];omega
 ·simp
theorem ZjN(a:Ac.Act)(h:Sz a):AC prog 108 [Am a] [] (.st (Ac.bytes a)) []:=by
 refine Ap [96,67] [] func108 ?_;have hl:=NE (a:=a);rw[ZjM];refine run ?_;refine cp (Tm a h) ?_;by_cases hc:Bq a=[]
 ·rw[if_pos hc]
  rw[hc];refine run ?_;exact Ad
 ·rw[if_neg hc]
  have hb:(Bq a==[])=false:=by simpa using hc
  have hr:right a=true:=by
   cases hr:right a with
   |true=>rfl
   |false=>exact absurd (bytes_wrong hr).2 hc
  have hs:=(C3 hr).sig;simp only[Bu,Bool.and_eq_true,Ch]at hs;have n1:=AD a.sig.e (by omega)
  have n2:=AD a.sig.s (by omega)
  generalize Bq a=c at *;refine Aa @hb ?_;refine cp (BQ a.sig.e (by omega) (by omega)) ?_
  refine Aa @hb ?_;refine cp (BQ a.sig.s (by omega) (by omega)) ?_
  refine Aa @hb ?_;exact Ad
theorem Ux(p:Int)(a:Ac.Act)(h:Sz a)(hp:-9223372036854775808≤p∧p≤9223372036854775807):AC prog 35 [.it .i64 p,Am a] [] (.bo (B0 p a)) []:=by
 refine Ap [73,96,95] [] func35 ?_;unfold B0;have hl:=NE (a:=a);refine run ?_;refine cp (LM a h) ?_;cases hr:right a with
 |false=>refine run ?_;exact Ad
 |true=>
  have hs:=(C3 hr).sig;simp only[Bu,Bool.and_eq_true,Ch]at hs;refine run ?_;refine cp (Tm a h) ?_;refine run ?_;refine cp (Oh p (Bq a) a.sig hl hp (by omega)) ?_
  refine run ?_;exact Ad
theorem ZdI(k:Key)(a:Ac.Act)(h:Sz a)(hk:-9223372036854775808≤k.secret∧k.secret≤9223372036854775807):AC prog 74 [Bx k,Am a] [] (Am (Er k a)) []:=by
 refine Ap [73,43,96,51,60,61] [] func74 ?_;have h0:Sz { a with sig:=A0 }:=⟨h.author,h.target,h.group,h.text,h.tos,h.to,h.wraps⟩
 unfold Er;simp only
 have hl:=NE (a:={ a with sig:=A0 })
 refine run ?_;refine cp (LM { a with sig:=A0 } h0) ?_
 cases hr:right { a with sig:=A0 } with
 |false=>
  rw[if_neg (by simp)]
  refine run ?_;exact AQ
 | true=>
  refine run ?_;refine cp (Nh k hk) ?_;cases hkr:k.right with
  |false=>
   rw[if_neg (by simp)]
   refine run ?_;exact AQ
  |true=>
   rw[if_pos (by rfl)]
   have sm:=C3 hr;have t1:a.to.length≤1000000:=by have :=sm.to.1;simp only at this;omega
   have t2:a.wraps.length≤1000000:=by have :=sm.wraps.1;simp only at this;omega
   refine run ?_;refine cp (Tm { a with sig:=A0 } h0) ?_
   refine run ?_;refine cp (QN k _ hl hk) ?_;refine run ?_;refine cp (Tq a.to t1) ?_;refine run ?_;refine cp (Zo a.wraps t2) ?_;refine run ?_;exact AQ
theorem Vz(x:R)(hx:x.rest.length≤1000000):∃(n:Int) (y:R),BP x=(n,y)∧y.rest.length≤1000000∧(0≤n∧n<9223372036854775808)∧AC prog 84 [.ptr 0 0] [rd x] (.it .i64 n) [rd y]:=by
 have :=Zf1 x;have :=Zf2 x;exact⟨x.num.1,x.num.2,rfl,by omega,by omega,ZeA x (by omega)⟩
end Pe
end
end Go.Proofs.YtchpmmjmimaigaaGreatDoor
