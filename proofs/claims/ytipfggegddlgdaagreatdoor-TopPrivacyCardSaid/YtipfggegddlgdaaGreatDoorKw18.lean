import Derived.Test.YtipfggegddlgdaaGreatDoorKw17
set_option linter.unusedSectionVars false
set_option linter.unusedVariables false
set_option linter.unusedSimpArgs false
namespace Go.Proofs.YtipfggegddlgdaaGreatDoor
section
namespace Pe
open Tryz
open Go Go.RowKit Co Sg Ac
variable [Tab]
set_option maxRecDepth 100000
set_option maxHeartbeats 4000000
abbrev Kx(b:Box):AV:=.agg [.st b.nonce,.st b.data,.st b.tag]
abbrev Bj(w:Wrap):AV:=.agg [.it .i64 w.to,.it .i64 w.eph,.st w.box.nonce,.st w.box.data,.st w.box.tag]
abbrev wraps(m:Mode)(l:List Wrap):AV:=.sl m (l.map Bj)
abbrev JA(a:Ac.Act):List AV:=[.st a.author,.it .i64 a.seq,.st a.prev,.it .i64 a.kind,.it .i64 a.time,.st a.object,.st a.target,.it .i64 a.scope,.st a.group,Av a.to,.st a.text,.st a.body.nonce,.st a.body.data,.st a.body.tag,.it .i64 a.epoch,.sl .ro (a.wraps.map Bj),.it .i64 a.n,.it .i64 a.m,.it .i64 a.sig.e,.it .i64 a.sig.s]
abbrev Am(a:Ac.Act):AV:=.agg [.st a.author,.it .i64 a.seq,.st a.prev,.it .i64 a.kind,.it .i64 a.time,.st a.object,.st a.target,.it .i64 a.scope,.st a.group,Av a.to,.st a.text,.st a.body.nonce,.st a.body.data,.st a.body.tag,.it .i64 a.epoch,.sl .ro (a.wraps.map Bj),.it .i64 a.n,.it .i64 a.m,.it .i64 a.sig.e,.it .i64 a.sig.s]
structure Sz(a:Ac.Act):Prop where
 author:a.author.length≤140737488355328
 target:a.target.length≤140737488355328
 group:a.group.length≤140737488355328
 text:a.text.length≤140737488355328
 tos:∀s∈a.to,s.length≤140737488355328
 to:a.to.length≤140737488355328
 wraps:a.wraps.length≤140737488355328
theorem GJ(s:By):(s==[])=decide (s=[]):=by rw[Bool.eq_iff_iff];simp
theorem RS(n:Int):(n==0)=decide (n=0):=rfl
theorem Ki{α:Type}(l:List α)[DecidableEq α]:((l.length:Int)==0)=decide (l=[]):=by
 cases l with
 |nil=>rfl
 |cons a l=>
  rw[show((((a::l).length:Nat):Int)==0)=false from Cb (by simp only[List.length_cons];omega)]
  simp
theorem Gs(s:By):dig s=((s.length:Int)==32):=by
 unfold dig;rw[Bool.eq_iff_iff];simp only[decide_eq_true_eq,beq_iff_eq];omega
theorem J1(s:By):Dg s=decide ((s.length:Int)≤500):=by
 unfold Dg;rw[Bool.eq_iff_iff];simp only[decide_eq_true_eq];omega
theorem Rc(b:Box):decide (b=CR)=((b.nonce==[])&&((b.data==[])&&(b.tag==[]))):=by
 obtain⟨x,y,z⟩:=b;rw[Bool.eq_iff_iff];simp[CR]
theorem Ga(n lo hi:Int):AC prog 157 [.it .i64 n,.it .i64 lo,.it .i64 hi] [] (.bo (wi n lo hi)) []:=by
 refine Ar [] [] func157 ?_;unfold wi;by_cases h:lo≤n
 ·rw[decide_eq_true h]
  refine run ?_;exact Ad
 ·rw[decide_eq_false h]
  refine run ?_;exact Ad
theorem Vn(s:By):AC prog 247 [.st s] [] (.bo (dig s)) []:=by
 refine Ar [] [] func247 ?_;rw[Gs];refine run ?_;exact Ad
theorem N9(s:By):AC prog 253 [.st s] [] (.bo (Dg s)) []:=by
 refine Ar [] [] func253 ?_;rw[J1];refine run ?_;exact Ad
theorem Oa(n:Int):AC prog 307 [.it .i64 n] [] (.bo (pub n)) []:=by
 refine Ar [157] [] func307 ?_;refine run ?_;refine cp (Ga n 1 2305843009213693950) ?_;refine run ?_;exact Ad
theorem Vm(b:Box):AC prog 306 [Kx b] [] (.bo (EG b)) []:=by
 refine Ar [253] [] func306 ?_;unfold EG;by_cases h1:b.nonce.length=32
 ·rw[decide_eq_true h1]
  by_cases h2:b.tag.length=16
  ·rw[decide_eq_true h2]
   refine run ?_;refine cp (N9 b.data) ?_;refine run ?_;exact Ad
  ·rw[decide_eq_false h2]
   refine run ?_;exact Ad
 ·rw[decide_eq_false h1]
  refine run ?_;exact Ad
theorem R5(a:Ac.Act)(hw:a.wraps.length≤140737488355328):AC prog 308 [Am a] [] (.bo (Fp a)) []:=by
 refine Ar [307,306] [] func308 ?_;unfold Fp;have hsz:AK 5 (a.wraps.map Bj)=true:=BG 5 Bj (fun _=>rfl) _
 refine run ?_;refine AN (fun m e S=>e 1=.ptr 0 0∧e 6=.sl .ro (a.wraps.map Bj)∧e 7=.it .i64 (a.wraps.length:Int) ∧ ∃(k:Nat) (T:Ae),e 8=.it .i64 (k:Int)∧S=.cells (JA a)::T∧k≤a.wraps.length∧(∀j (h:j<a.wraps.length),j<k→Cv a.wraps[j]=true)∧m=a.wraps.length-k) a.wraps.length
  ⟨Aa,Aa,Aa,0,[],Aa,rfl,by omega,fun j _ h=>absurd h (Nat.not_lt_zero _),rfl⟩ ?_
 rintro m e S ⟨s1,s6,s7,k,T,s8,rfl,hk,hall,rfl⟩
 by_cases hlt:k<a.wraps.length
 rotate_left
 ·obtain rfl:k=a.wraps.length:=by omega
  have h1:a.wraps.all Cv=true:=List.all_eq_true.2 fun x hx=>by
   obtain⟨j,hj,rfl⟩:=List.getElem_of_mem hx;exact hall j hj hj
  have h2:decide (a.wraps.length=a.to.length)=((a.wraps.length:Int)==(a.to.length:Int)):=by
   rw[Bool.eq_iff_iff];simp only[decide_eq_true_eq,beq_iff_eq];omega
  rw[h1,h2];refine Ab (A4 @s1 @s6 @s7 @s8) ?_;exact Ad
 have hg:a.wraps[k]? = some a.wraps[k]:=List.getElem?_eq_getElem hlt
 have hbad:Cv a.wraps[k]=false→a.wraps.all Cv=false:=fun h=>List.all_eq_false.2 ⟨_,List.getElem_mem hlt,by simp[h]⟩
 have hnext:Cv a.wraps[k]=true → ∀j (h:j<a.wraps.length),j<k+1→Cv a.wraps[j]=true:=fun hb j h hj=>by
  by_cases e:j=k
  ·subst e;exact hb
  ·exact hall j h (by omega)
 generalize a.wraps[k]=x at *;have hT1:∀y:SObj,(T++[y])[T.length]? = some y:=fun y=>by simp
 have hT2:∀y z:SObj,(T++[y]).set T.length z=T++[z]:=fun y z=>by simp
 have hwx:Cv x=(pub x.to&&pub x.eph&&EG x.box):=rfl;rw[hwx]at hbad hnext;refine Ab (A8 @s1 @s6 @s7 @s8 @hg @hsz @hT1 @hT2) ?_;refine cp (Oa x.to) ?_;cases h1:pub x.to with
 |false=>
  rw[h1]at hbad;rw[hbad rfl];refine Ab (A6 @s1 @s6 @s7 @s8 @hT1 @hT2) ?_;exact Ad
 | true=>
  refine Ab (A6 @s1 @s6 @s7 @s8 @hT1 @hT2) ?_;refine cp (Oa x.eph) ?_;cases h2:pub x.eph with
  |false=>
   rw[h1,h2]at hbad;rw[hbad rfl];refine Ab (A6 @s1 @s6 @s7 @s8 @hT1 @hT2) ?_;exact Ad
  | true=>
   refine Ab (A6 @s1 @s6 @s7 @s8 @hT1 @hT2) ?_;refine cp (Vm x.box) ?_;cases h3:EG x.box with
   |false=>
    rw[h1,h2,h3]at hbad;rw[hbad rfl];refine Ab (A6 @s1 @s6 @s7 @s8 @hT1 @hT2) ?_;exact Ad
   |true=>
    rw[h1,h2,h3]at hnext;refine Ab (A6 @s1 @s6 @s7 @s8 @hT1 @hT2) ?_;exact Aj (a.wraps.length-(k+1)) (by omega) ⟨Aa,Aa,Aa,k+1,_,Aa,rfl,by omega,hnext rfl,rfl⟩
theorem Ti(sc:Int)(g:By)(hg:g.length≤140737488355328):AC prog 305 [.it .i64 sc,.st g] [] (.bo (Ge sc g)) []:=by
 refine Ar [255] [] func305 ?_;unfold Ge;have hn:=GJ;by_cases h2:sc=2
 ·rw[if_pos h2]
  refine run ?_;refine cp (NY g hg) ?_;refine run ?_;exact Ad
 rw[if_neg h2];by_cases h1:sc=1
 ·rw[if_pos (.inl h1)]
  refine Ab @hn ?_;exact Ad
 by_cases h3:sc=3
 ·rw[if_pos (.inr h3)]
  refine Ab @hn ?_;exact Ad
 ·rw[if_neg (by omega)]
  refine run ?_;exact Ad
theorem Yo(a:Ac.Act)(h:Sz a):AC prog 250 [Am a] [] (.bo (Ey a)) []:=by
 refine Ar [258,253,305,157,306] [] func250 ?_;unfold Ey;have hn:=GJ;have hz:=RS;have hb:=Rc a.body;have hl:=Ki a.to;refine run ?_;refine cp (Od a.to h.tos h.to) ?_;cases h0:CJ a.to with
 |false=>
  refine run ?_;exact Ad
 | true=>
  by_cases hs:a.scope=0
  ·rw[if_pos hs]
   by_cases h1:a.group=[]
   rotate_left
   ·rw[decide_eq_false h1]
    refine Ab (an @hn @h1) ?_;exact Ad
   by_cases h2:a.epoch=0
   rotate_left
   ·rw[decide_eq_true h1,decide_eq_false h2]
    refine Ab (an @hn @h1) ?_;exact Ad
   rw[decide_eq_true h1,decide_eq_true h2];refine Ab (an @hn @h1) ?_;refine cp (N9 a.text) ?_;cases h3:Dg a.text with
   |false=>
    refine run ?_;exact Ad
   |true=>
    rw[hb];refine run ?_;exact Ad
  ·rw [if_neg hs]
   by_cases h1:a.to=[]∨a.scope=3
   rotate_left
   ·have h2:a.to≠[]:=fun e=>h1 (.inl e)
    have h3:a.scope≠3:=fun e=>h1 (.inr e)
    have h4:(0:Int)<(a.to.length:Int):=by have :=List.length_pos_iff.2 h2;omega
    rw[decide_eq_false h2,decide_eq_false h3];refine Ab @h4 ?_;exact Ad
   have e1:(decide (a.to=[])||decide (a.scope=3))=true:=by simpa using h1
   rw[e1];have hgo:∀G:Prop,(a.to=[]→G)→(a.to≠[]→a.scope=3→G)→G:=fun G g1 g2=>by
    by_cases e:a.to=[]
    ·exact g1 e
    ·exact g2 e (h1.resolve_left e)
   refine hgo _ (fun e=>?_) (fun e e3=>?_)
   focus
    have h4:¬(0:Int)<(a.to.length:Int):=by rw[e];simp
    refine Ab @h4 ?_
   rotate_left;focus
    have h4:(0:Int)<(a.to.length:Int):=by have :=List.length_pos_iff.2 e;omega
    refine Ab (an @h4 @e3) ?_;rw[←e3]
   all_goals
    refine cp (Ti a.scope a.group h.group) ?_;cases h5:Ge a.scope a.group with
    |false=>
     refine run ?_;exact Ad
    | true=>
     refine run ?_;refine cp (Ga a.epoch 0 1073741824) ?_;cases h6:wi a.epoch 0 1073741824 with
     |false=>
      refine run ?_;exact Ad
     | true=>
      by_cases h7:a.text=[]
      rotate_left
      ·rw[decide_eq_false h7]
       refine Ab (an @hn @h7) ?_;exact Ad
      rw[decide_eq_true h7];refine Ab (an @hn @h7) ?_;refine cp (Vm a.body) ?_;refine run ?_;exact Ad
theorem LR(a:Ac.Act):AC prog 249 [Am a] [] (.bo (dig a.object)) []:=by
 refine Ar [247] [] func249 ?_;refine run ?_;refine cp (Vn a.object) ?_;refine run ?_;exact Ad
theorem Ng(a:Ac.Act)(h:Sz a):AC prog 251 [Am a] [] (.bo (Bw a.target)) []:=by
 refine Ar [155] [] func251 ?_;refine run ?_;refine cp (Qw a.target h.target) ?_;refine run ?_;exact Ad
theorem Vz(a:Ac.Act):AC prog 256 [Am a] [] (.bo (home a)) []:=by
 refine Ar [307,157] [] func256 ?_;unfold home;refine run ?_;refine cp (Oa a.n) ?_;cases h1:pub a.n with
 |false=>refine run ?_;exact Ad
 |true=>
  refine run ?_;refine cp (Ga a.m 0 19) ?_;refine run ?_;exact Ad
theorem Zfn(a:Ac.Act)(h:Sz a):AC prog 259 [Am a] [] (.bo (grant a)) []:=by
 refine Ar [305,157,258,308] [] func259 ?_;unfold grant;refine run ?_;refine cp (Ti a.scope a.group h.group) ?_;cases h1:Ge a.scope a.group with
 |false=>refine run ?_;exact Ad
 | true=>
  refine run ?_;refine cp (Ga a.epoch 0 1073741824) ?_;cases h2:wi a.epoch 0 1073741824 with
  |false=>refine run ?_;exact Ad
  | true=>
   refine run ?_;refine cp (Od a.to h.tos h.to) ?_;cases h3:CJ a.to with
   |false=>refine run ?_;exact Ad
   |true=>
    refine run ?_;refine cp (R5 a h.wraps) ?_;refine run ?_;exact Ad
theorem Zen(a:Ac.Act)(h:Sz a):AC prog 260 [Am a] [] (.bo (label a)) []:=by
 refine Ar [255,249,251] [] func260 ?_;unfold label;have hn:=GJ;refine run ?_;refine cp (NY a.text h.text) ?_;cases h1:Cd a.text with
 |false=>refine run ?_;exact Ad
 | true=>
  refine run ?_;refine cp (LR a) ?_;cases h2:dig a.object with
  | true=>
   by_cases h3:a.target=[]
   ·rw[decide_eq_true h3]
    refine Ab (an @hn @h3) ?_;exact Ad
   ·rw[decide_eq_false h3]
    refine Ab (an @hn @h3) ?_;refine cp (Ng a h) ?_;cases h4:Bw a.target with
    |false=>refine run ?_;exact Ad
    |true=>refine Ab @hn ?_;exact Ad
  |false=>
   refine run ?_;refine cp (Ng a h) ?_;cases h4:Bw a.target with
   |false=>refine run ?_;exact Ad
   |true=>refine Ab @hn ?_;exact Ad
theorem ZbB(a:Ac.Act)(h:Sz a):AC prog 261 [Am a] [] (.bo (setup a)) []:=by
 refine Ar [258,308,157,307] [] func261 ?_;unfold setup;by_cases h0:0<a.to.length
 rotate_left
 ·rw[decide_eq_false h0]
  refine run ?_;exact Ad
 rw[decide_eq_true h0];refine run ?_;refine cp (Od a.to h.tos h.to) ?_;cases h1:CJ a.to with
 |false=>refine run ?_;exact Ad
 | true=>
  refine run ?_;refine cp (R5 a h.wraps) ?_;cases h2:Fp a with
  |false=>refine run ?_;exact Ad
  | true=>
   refine run ?_;refine cp (Ga a.n 1 a.to.length) ?_;cases h3:wi a.n 1 a.to.length with
   |false=>refine run ?_;exact Ad
   |true=>
    refine run ?_;refine cp (Oa a.m) ?_;refine run ?_;exact Ad
theorem Zb3(a:Ac.Act)(h:Sz a):AC prog 248 [Am a] [] (.bo (dig a.object&&Ey a)) []:=by
 refine Ar [249,250] [] func248 ?_;refine run ?_;refine cp (LR a) ?_;cases h1:dig a.object with
 |false=>refine run ?_;exact Ad
 |true=>
  refine run ?_;refine cp (Yo a h) ?_;refine run ?_;exact Ad
theorem Zb2(a:Ac.Act):AC prog 252 [Am a] [] (.bo (dig a.object&&Dg a.text)) []:=by
 refine Ar [249,253] [] func252 ?_;refine run ?_;refine cp (LR a) ?_;cases h1:dig a.object with
 |false=>refine run ?_;exact Ad
 |true=>
  refine run ?_;refine cp (N9 a.text) ?_;refine run ?_;exact Ad
theorem Zb1(a:Ac.Act)(h:Sz a):AC prog 254 [Am a] [] (.bo (Cd a.text&&home a)) []:=by
 refine Ar [255,256] [] func254 ?_;refine run ?_;refine cp (NY a.text h.text) ?_;cases h1:Cd a.text with
 |false=>refine run ?_;exact Ad
 |true=>
  refine run ?_;refine cp (Vz a) ?_;refine run ?_;exact Ad
theorem Zb0(a:Ac.Act)(h:Sz a):AC prog 257 [Am a] [] (.bo (Cd a.group&&CJ a.to)) []:=by
 refine Ar [255,258] [] func257 ?_;refine run ?_;refine cp (NY a.group h.group) ?_;cases h1:Cd a.group with
 |false=>refine run ?_;exact Ad
 |true=>
  refine run ?_;refine cp (Od a.to h.tos h.to) ?_;refine run ?_;exact Ad
theorem ZbZ(a:Ac.Act):AC prog 262 [Am a] [] (.bo (dig a.object&&wi a.n 0 1)) []:=by
 refine Ar [249,157] [] func262 ?_;refine run ?_;refine cp (LR a) ?_;cases h1:dig a.object with
 |false=>refine run ?_;exact Ad
 |true=>
  refine run ?_;refine cp (Ga a.n 0 1) ?_;refine run ?_;exact Ad
theorem ZbY(a:Ac.Act)(h:Sz a):AC prog 263 [Am a] [] (.bo (Bw a.target&&Dg a.text&&wi a.n 0 1099511627776)) []:=by
 refine Ar [251,253,157] [] func263 ?_;refine run ?_;refine cp (Ng a h) ?_;cases h1:Bw a.target with
 |false=>refine run ?_;exact Ad
 | true=>
  refine run ?_;refine cp (N9 a.text) ?_;cases h2:Dg a.text with
  |false=>refine run ?_;exact Ad
  |true=>
   refine run ?_;refine cp (Ga a.n 0 1099511627776) ?_;refine run ?_;exact Ad
theorem Zdb(a:Ac.Act):AC prog 156 [Am a] [] (.bo (placed a)) []:=by
 refine Ar [157,247] [] func156 ?_;unfold placed;have hn:=GJ;by_cases h0:a.seq=0
 ·rw[if_pos h0]
  by_cases h1:a.kind=0
  ·rw[decide_eq_true h1]
   refine Ab @hn ?_;exact Ad
  ·rw[decide_eq_false h1]
   refine run ?_;exact Ad
 ·rw[if_neg h0]
  refine run ?_;refine cp (Ga a.seq 1 1073741824) ?_;cases h1:wi a.seq 1 1073741824 with
  |false=>refine run ?_;exact Ad
  | true=>
   by_cases h2:a.kind=0
   ·rw[decide_eq_false (p:=a.kind≠0) (by simpa using h2)]
    refine run ?_;exact Ad
   ·rw[decide_eq_true (p:=a.kind≠0) h2]
    refine run ?_;refine cp (Vn a.prev) ?_;refine run ?_;exact Ad
theorem LL(k:Int):AC prog 70 [.it .i64 k] [] (.bo (Cx k)) []:=by
 refine Ar [] [] func70 ?_;unfold Cx;by_cases h1:k=1
 ·rw[decide_eq_true h1]
  refine run ?_;exact Ad
 by_cases h2:k=2
 ·rw[decide_eq_false h1,decide_eq_true h2]
  refine run ?_;exact Ad
 ·rw[decide_eq_false h1,decide_eq_false h2]
  refine run ?_;exact Ad
theorem ZdD(f s:Int)(z:Bool):AC prog 264 [.it .i64 f,.bo z,.ptr 0 0] [.cells [.it .i64 s]] (.tup []) [.cells [.it .i64 (BE z f s)]]:=by
 refine Ar [] [] func264 ?_;unfold BE;cases z
 ·refine run ?_
  exact WS
 ·refine run ?_
  exact WS
theorem Gi(f s:Int)(z:Bool)(o:SObj):AC prog 264 [.it .i64 f,.bo z,.ptr 1 0] [o,.cells [.it .i64 s]] (.tup []) [o,.cells [.it .i64 (BE z f s)]]:=
 AC.at1 (T:=[o,.cells [.it .i64 s]]) (ZdD f s z) 1 rfl rfl rfl rfl rfl
theorem Zay(a:Ac.Act):AC prog 159 [Am a] [] (.it .i64 (IR a)) []:=by
 refine Ar [] [] func159 ?_;unfold IR;have hn:=GJ;have hz:=RS;have hb:=Rc a.body;have hl:=Ki a.to;have hw:=Ki a.wraps;rw[hb];refine Ab @hn ?_;refine AZ (Gi 1 0 (decide (a.object=[])) _) ?_;generalize BE (decide (a.object=[])) 1 0=s at *;refine Ab @hn ?_;refine AZ (Gi 2 s (decide (a.target=[])) _) ?_;generalize BE (decide (a.target=[])) 2 s=s at *;refine Ab @hz ?_;refine AZ (Gi 4 s (decide (a.scope=0)) _) ?_;generalize BE (decide (a.scope=0)) 4 s=s at *;refine Ab @hn ?_;refine AZ (Gi 8 s (decide (a.group=[])) _) ?_;generalize BE (decide (a.group=[])) 8 s=s at *;refine Ab @hl ?_;refine AZ (Gi 16 s (decide (a.to=[])) _) ?_;generalize BE (decide (a.to=[])) 16 s=s at *;refine Ab @hn ?_;refine AZ (Gi 32 s (decide (a.text=[])) _) ?_;generalize BE (decide (a.text=[])) 32 s=s at *;refine Ab @hn ?_;refine AZ (Gi 64 s (decide (a.body.nonce=[])&&(decide (a.body.data=[])&&decide (a.body.tag=[]))) _) ?_;generalize BE (decide (a.body.nonce=[])&&(decide (a.body.data=[])&&decide (a.body.tag=[]))) 64 s=s at *;refine Ab @hz ?_;refine AZ (Gi 128 s (decide (a.epoch=0)) _) ?_;generalize BE (decide (a.epoch=0)) 128 s=s at *;refine Ab @hw ?_;refine AZ (Gi 256 s (decide (a.wraps=[])) _) ?_;generalize BE (decide (a.wraps=[])) 256 s=s at *;refine Ab @hz ?_;refine AZ (Gi 512 s (decide (a.n=0)) _) ?_;generalize BE (decide (a.n=0)) 512 s=s at *;refine Ab @hz ?_;refine AZ (Gi 1024 s (decide (a.m=0)) _) ?_;generalize BE (decide (a.m=0)) 1024 s=s at *;refine run ?_;exact Ad
def PD:Ru→FuncId
 |.begin=>254
 |.post=>250
 |.reply=>248
 |.about=>249
 |.tie=>251
 |.reason=>252
 |.circle=>257
 |.grant=>259
 |.label=>260
 |.move=>256
 |.setup=>261
 |.judge=>262
 |.list=>263
theorem Zb6(a:Ac.Act)(h:Sz a)(r:Ru):AC prog (PD r) [Am a] [] (.bo (r.ok a)) []:=by
 cases r
 ·exact Zb1 a h
 ·exact Yo a h
 ·exact Zb3 a h
 ·exact LR a
 ·exact Ng a h
 ·exact Zb2 a
 ·exact Zb0 a h
 ·exact Zfn a h
 ·exact Zen a h
 ·exact Vz a
 ·exact ZbB a h
 ·exact ZbZ a
 ·exact ZbY a h
def Ly(r:Ru):AV:=.agg [.it .i64 r.mask,.fn (.func (PD r)) [] []]
def LA:List (AV×AV):=J7.map fun p=>(.it .i64 p.1,Ly p.2)
theorem U9(k:Int):∀(l:List (Int×Ru)) (i:Nat),(l.lookup k=none∧Cj (.it .i64 k) (l.map fun p=>(.it .i64 p.1,Ly p.2)) i=some none)∨(∃r j,l.lookup k=some r∧Cj (.it .i64 k) (l.map fun p=>(.it .i64 p.1,Ly p.2)) i=some (some (j,Ly r)))
 |[],i=>.inl ⟨rfl,rfl⟩
 |(k',r)::l,i=>by
  have hk:Fb (.it .i64 k) (.it .i64 k')=some (k==k'):=rfl;rw[List.map_cons,List.lookup_cons];unfold Cj;rw[hk];cases e:k==k' with
  |true=>exact .inr ⟨r,i,rfl,rfl⟩
  |false=>exact U9 k l (i+1)
theorem Zb7:(SObj.map LA).ok 0=true:=by decide +kernel
theorem ZbX:AC prog 158 [] [] (.fm LA) []:=by
 refine Ar [] [] func158 ?_;refine run ?_;exact QV _ _ (Ao.freeze 0 0 4 (es:=LA) (by rfl) (by rfl) Zb7) [] (by rfl) (Pq _) (by rfl) (by rfl) (by rfl)
theorem NK(a:Ac.Act)(h:Sz a):AC prog 85 [Am a] [] (.bo (right a)) []:=by
 refine Ar [158,155,156,157,159,1000050] [] func85 ?_;unfold right;refine run ?_;refine cp (Qw a.author h.author) ?_;cases h1:Bw a.author with
 |false=>refine run ?_;exact Ad
 | true =>
  refine run ?_;refine cp (Zdb a) ?_;cases h2:placed a with
  |false=>refine run ?_;exact Ad
  | true=>
   refine run ?_;refine cp (Ga a.time 0 1099511627776) ?_;cases h3:wi a.time 0 1099511627776 with
   |false=>refine run ?_;exact Ad
   | true=>
    unfold BQ;refine run ?_;refine cp (Ga a.sig.e 0 2305843009213693949) ?_;cases h4:wi a.sig.e 0 2305843009213693949 with
    |false=>refine run ?_;exact Ad
    | true=>
     refine run ?_;refine cp (Ga a.sig.s 0 2305843009213693949) ?_;cases h5:wi a.sig.s 0 2305843009213693949 with
     |false=>refine run ?_;exact Ad
     | true=>
      refine run ?_;refine cp ZbX ?_;rcases U9 a.kind J7 0 with⟨hr,hk⟩|⟨r,j,hr,hk⟩
      ·change Cj _ LA 0=_ at hk
       change FP a.kind=_ at hr;rw[hr];refine Ab @hk ?_;exact Ad
      ·change Cj _ LA 0=_ at hk
       change FP a.kind=_ at hr;rw[hr];have hv:Ly r=.agg [.it .i64 r.mask,.fn (.func (PD r)) [] []]:=rfl;rw[hv]at hk;refine Ab @hk ?_;refine cp (Zay a) ?_;by_cases hu:Go.bits .andNot .i64 (IR a) r.mask=0
       ·rw[decide_eq_true hu]
        have hrc:=Zb6 a h r;refine Ab @hu ?_;refine cp hrc ?_;refine run ?_;exact Ad
       ·have hb:(Go.bits .andNot .i64 (IR a) r.mask==0)=false:=by simpa using hu
        rw[decide_eq_false hu];refine Ab @hb ?_;exact Ad
end Pe
namespace Pe
open Tryz
open Go Go.RowKit Co Sg Ac
set_option maxRecDepth 100000
set_option maxHeartbeats 4000000
theorem AC.empties[Tab]{P:Program}{f:FuncId}{m:Mode}{rest:List AV}{S S':Ae}{v:AV}(h:∀(A:Option Addr) (c:Nat),AC P f (.ot (.slice A 0 c)::rest) S v S'):AC P f (.sl m []::rest) S v S':=by
 refine⟨(h none 0).can,fun w g cargs hw hargs=>?_⟩
 obtain⟨h1,h2⟩:=hargs;have h0:0<cargs.size:=by rw[h1];simp
 have hr:=h2 0 _ cargs[0] rfl (Array.getElem?_eq_getElem h0)
 generalize hcv:cargs[0]=cv at hr;cases hr with
 | sl _ _ _ A c sz cu hc hcm hsz hA h1' hr' hm=>
  refine(h A c).run w g cargs hw ⟨by simpa using h1,fun j u v hu hv=>?_⟩
  cases j with
  |zero=>
   simp only[List.getElem?_cons_zero,Option.some.injEq]at hu
   subst hu;rw[Array.getElem?_eq_getElem h0,hcv]at hv
   cases hv
   exact .ot _ _ rfl
  |succ j=>exact h2 (j+1) u v (by simpa using hu) hv
theorem WL(l r:List By)(hl:l.length≤140737488355328)(hr:r.length≤140737488355328):AC prog 142 [.sl .ro (l.map AV.st),.sl .ro (r.map AV.st)] [] (.bo (decide (l=r))) []:=by
 refine Ar [] [] func142 ?_;by_cases hlen:l.length=r.length
 rotate_left
 ·rw[decide_eq_false (fun e=>hlen (by rw[e]))]
  refine run ?_;exact Ad
 have hs1:AK 1 (l.map AV.st)=true:=BG 1 AV.st (fun _=>rfl) _
 have hs2:AK 1 (r.map AV.st)=true:=BG 1 AV.st (fun _=>rfl) _
 refine run ?_;refine AN (fun m e S=>S=[]∧e 0=.sl .ro (l.map AV.st)∧e 1=.sl .ro (r.map AV.st)∧e 12=.it .i64 (l.length:Int) ∧ ∃k:Nat,e 13=.it .i64 (k:Int)∧k≤l.length∧l.take k=r.take k∧m=l.length-k) l.length ⟨rfl,Aa,Aa,Aa,0,Aa,by omega,rfl,rfl⟩ ?_
 rintro m e S ⟨rfl,s0,s1,s12,k,s13,hk,htk,rfl⟩
 by_cases hlt:k<l.length
 rotate_left
 ·obtain rfl:k=l.length:=by omega
  rw[List.take_length,List.take_of_length_le (by omega)]at htk
  rw[decide_eq_true htk];refine Ab (A4 @s0 @s1 @s12 @s13) ?_;exact Ad
 have g1:l[k]? = some l[k]:=List.getElem?_eq_getElem hlt
 have g2:r[k]? = some (r[k]'(by omega)):=List.getElem?_eq_getElem (by omega)
 have hbad:l[k]≠r[k]'(by omega)→l≠r:=fun h e=>h (by subst e;rfl)
 have hgood:l[k]=r[k]'(by omega)→l.take (k+1)=r.take (k+1):=fun h=>by
  rw[List.take_succ_eq_append_getElem hlt,List.take_succ_eq_append_getElem (by omega:k<r.length),htk,h]
 generalize l[k]=x at *;generalize r[k]'_=y at *;by_cases hxy:x=y
 ·subst hxy
  have hg:=hgood rfl;clear hgood hbad htk;refine Ab (A8 @s0 @s1 @s12 @s13 @g1 @g2 @hs1 @hs2) ?_;exact Aj (l.length-(k+1)) (by omega) ⟨rfl,Aa,Aa,Aa,k+1,Aa,by omega,hg,rfl⟩
 ·rw[decide_eq_false (hbad hxy)]
  clear hgood hbad htk;have e1:(x==y)=false:=by simpa using hxy
  refine Ab (A9 @s0 @s1 @s12 @s13 @g1 @g2 @hs1 @hs2 @e1) ?_;exact Ad
theorem Zf7(l r:List Wrap)(hl:l.length≤140737488355328)(hr:r.length≤140737488355328):AC prog 265 [.sl .ro (l.map Bj),.sl .ro (r.map Bj)] [] (.bo (decide (l=r))) []:=by
 refine Ar [] [] func265 ?_;by_cases hlen:l.length=r.length
 rotate_left
 ·rw[decide_eq_false (fun e=>hlen (by rw[e]))]
  refine run ?_;exact Ad
 have hs1:AK 5 (l.map Bj)=true:=BG 5 Bj (fun _=>rfl) _
 have hs2:AK 5 (r.map Bj)=true:=BG 5 Bj (fun _=>rfl) _
 refine run ?_;refine AN (fun m e S=>S=[]∧e 0=.sl .ro (l.map Bj)∧e 1=.sl .ro (r.map Bj)∧e 12=.it .i64 (l.length:Int) ∧ ∃k:Nat,e 13=.it .i64 (k:Int)∧k≤l.length∧l.take k=r.take k∧m=l.length-k) l.length ⟨rfl,Aa,Aa,Aa,0,Aa,by omega,rfl,rfl⟩ ?_
 rintro m e S ⟨rfl,s0,s1,s12,k,s13,hk,htk,rfl⟩
 by_cases hlt:k<l.length
 rotate_left
 ·obtain rfl:k=l.length:=by omega
  rw[List.take_length,List.take_of_length_le (by omega)]at htk
  rw[decide_eq_true htk];refine Ab (A4 @s0 @s1 @s12 @s13) ?_;exact Ad
 have g1:l[k]? = some l[k]:=List.getElem?_eq_getElem hlt
 have g2:r[k]? = some (r[k]'(by omega)):=List.getElem?_eq_getElem (by omega)
 have hbad:l[k]≠r[k]'(by omega)→l≠r:=fun h e=>h (by subst e;rfl)
 have hgood:l[k]=r[k]'(by omega)→l.take (k+1)=r.take (k+1):=fun h=>by
  rw[List.take_succ_eq_append_getElem hlt,List.take_succ_eq_append_getElem (by omega:k<r.length),htk,h]
 generalize l[k]=x at *;generalize r[k]'_=y at *;by_cases hxy:x=y
 ·subst hxy
  have hg:=hgood rfl;clear hgood hbad htk;refine Ab (A8 @s0 @s1 @s12 @s13 @g1 @g2 @hs1 @hs2) ?_;exact Aj (l.length-(k+1)) (by omega) ⟨rfl,Aa,Aa,Aa,k+1,Aa,by omega,hg,rfl⟩
 ·rw[decide_eq_false (hbad hxy)]
  clear hgood hbad htk;have e1:((x.to==y.to)&&((x.eph==y.eph)&&(((x.box.nonce==y.box.nonce)&&((x.box.data==y.box.data)&&(x.box.tag==y.box.tag))))))=false:=by
   obtain⟨x1,x2,x3,x4,x5⟩:=x;obtain⟨y1,y2,y3,y4,y5⟩:=y;rw[Bool.eq_false_iff];intro h;simp only[Bool.and_eq_true,beq_iff_eq]at h;obtain⟨rfl,rfl,rfl,rfl,rfl⟩:=h;exact hxy rfl
  refine Ab (A9 @s0 @s1 @s12 @s13 @g1 @g2 @hs1 @hs2 @e1) ?_;exact Ad
theorem XD(l:List By)(hl:l.length≤1000000):AC prog 43 [.sl .ro (l.map AV.st)] [] (.sl .ro (l.map AV.st)) []:=by
 cases l with
 | nil=>
  refine AC.empties fun A c=>?_
  refine Ar [] [] func43 ?_;cases A with
  |none=>
   refine run ?_;exact Au
  |some A=>
   refine run ?_;exact Au
 |cons x l=>
  have hs1:AK 1 ((x::l).map AV.st)=true:=BG 1 AV.st (fun _=>rfl) _
  have hl':l.length≤1000000:=by simp only[List.length_cons]at hl;omega
  simp only[List.map_cons]at hs1 ⊢;refine Ar [] [] func43 ?_;refine Ab @hs1 ?_;exact Au
theorem Zhd(l:List Wrap)(hl:l.length≤1000000):AC prog 44 [.sl .ro (l.map Bj)] [] (.sl .ro (l.map Bj)) []:=by
 cases l with
 | nil=>
  refine AC.empties fun A c=>?_
  refine Ar [] [] func44 ?_;cases A with
  |none=>
   refine run ?_;exact Au
  |some A=>
   refine run ?_;exact Au
 |cons x l=>
  have hs1:AK 5 ((x::l).map Bj)=true:=BG 5 Bj (fun _=>rfl) _
  have hl':l.length≤1000000:=by simp only[List.length_cons]at hl;omega
  simp only[List.map_cons]at hs1 ⊢;refine Ar [] [] func44 ?_;refine Ab @hs1 ?_;exact Au
theorem XW(b:Box)(h:b.nonce.length≤1000000∧b.data.length≤1000000∧b.tag.length≤1000000):AC prog 188 [Kx b] [] (.st (FG b)) []:=by
 refine Ar [110] [] func188 ?_;have l1:=BL h.1;have l2:=BL h.2.1;have l3:=BL h.2.2;unfold FG;refine run ?_;refine cp (EY b.nonce (by omega)) ?_
 refine run ?_;refine cp (EY b.data (by omega)) ?_
 refine run ?_;refine cp (EY b.tag (by omega)) ?_
 refine run ?_;exact Ad
theorem MA(b:Box)(h:b.nonce.length≤1000000∧b.data.length≤1000000∧b.tag.length≤1000000):(FG b).length≤3000027:=by
 have l1:=BL h.1;have l2:=BL h.2.1;have l3:=BL h.2.2;unfold FG;simp only[List.length_append];omega
theorem M1{w:Wrap}(h:Cv w=true):(1≤w.to∧w.to≤2305843009213693950)∧(1≤w.eph∧w.eph≤2305843009213693950)∧w.box.nonce.length≤1000000∧w.box.data.length≤1000000∧w.box.tag.length≤1000000:=by
 simp only[Cv,pub,Bool.and_eq_true,Ch]at h;have :=PC h.2;omega
theorem Zab{w:Wrap}(h:Cv w=true):(Cg w).length≤3000045:=by
 have h':=M1 h;have :=MA w.box h'.2.2;have h1:=AI w.to (by omega)
 have h2:=AI w.eph (by omega)
 unfold Cg;simp only[List.length_append];omega
theorem R1{l:List Wrap}(hw:∀w∈l,Cv w=true)(hl:l.length≤64)(k:Nat):((l.take k).map Cg).flatten.length≤192002880:=by
 have hx:∀m:List Wrap,(∀w∈m,Cv w=true)→(m.map Cg).flatten.length≤m.length*3000045:=fun m=>by
  induction m with
  |nil=>intro _;simp
  |cons w m ih=>
   intro h;have h1:=Zab (h w (by simp))
   have h2:=ih fun x hx=>h x (by simp[hx])
   rw[List.map_cons,List.flatten_cons,List.length_append,List.length_cons,Nat.succ_mul];omega
 have h1:=hx (l.take k) fun w h=>hw w (List.mem_of_mem_take h)
 have h2:(l.take k).length*3000045≤64*3000045:=Nat.mul_le_mul_right _ (by rw[List.length_take];omega)
 omega
def I6(a:Ac.Act):By:=
 text FN++text a.author++Ai a.seq++text a.prev++(Ai a.kind++Ai a.time++text a.object++text a.target)++(Ai a.scope++text a.group++list a.to++text a.text)++(FG a.body++Ai a.epoch++num a.wraps.length)
theorem ZgZ(a:Ac.Act):Gt a=I6 a++(a.wraps.map Cg).flatten++Ai a.n++Ai a.m:=by
 unfold Gt I6;simp only[List.append_assoc]
theorem Xr(a:Ac.Act)(h:Sz a):AC prog 113 [Am a] [] (.st (Bx a)) []:=by
 refine Ar [85,110,111,187,188] [] func113 ?_;unfold Bx;refine run ?_;refine cp (NK a h) ?_;cases hr:right a with
 |false=>rw[if_neg (by simp)];refine run ?_;exact Ad
 | true=>
  rw[if_pos rfl];have sm:=Cp hr;have q1:=BL (s:=FN) (by simp)
  have q2:=BL (s:=a.author) (by have :=sm.author;omega)
  have q3:=AI a.seq (by have :=sm.seq;omega)
  have q4:=BL (s:=a.prev) (by have :=sm.prev;omega)
  have q5:=AI a.kind (by have :=sm.kind;omega)
  have q6:=AI a.time (by have :=sm.time;omega)
  have q7:=BL (s:=a.object) (by have :=sm.object;omega)
  have q8:=BL (s:=a.target) (by have :=sm.target;omega)
  have q9:=AI a.scope (by have :=sm.scope;omega)
  have q10:=BL (s:=a.group) (by have :=sm.group;omega)
  have q11:=UY (l:=a.to) (by have :=sm.to;omega) (fun x hx=>by have :=sm.to.2 x hx;omega)
  have q12:=BL (s:=a.text) (by have :=sm.text;omega)
  have q13:=MA a.body (by have :=sm.body;omega)
  have q14:=AI a.epoch (by have :=sm.epoch;omega)
  have q15:=EJ (n:=a.wraps.length) (by have :=sm.wraps;omega)
  have q16:=AI a.n (by have :=sm.n;omega)
  have q17:=AI a.m (by have :=sm.m;omega)
  have k1:=EY FN (by simp)
  have k2:=EY a.author (by have :=sm.author;omega)
  have k3:=DU a.seq (by have :=sm.seq;omega) (by have :=sm.seq;omega)
  have k4:=EY a.prev (by have :=sm.prev;omega)
  have k5:=DU a.kind (by have :=sm.kind;omega) (by have :=sm.kind;omega)
  have k6:=DU a.time (by have :=sm.time;omega) (by have :=sm.time;omega)
  have k7:=EY a.object (by have :=sm.object;omega)
  have k8:=EY a.target (by have :=sm.target;omega)
  have k9:=DU a.scope (by have :=sm.scope;omega) (by have :=sm.scope;omega)
  have k10:=EY a.group (by have :=sm.group;omega)
  have k11:=Zed a.to (by have :=sm.to;omega) (fun x hx=>by have :=sm.to.2 x hx;omega)
  have k12:=EY a.text (by have :=sm.text;omega)
  have k13:=XW a.body (by have :=sm.body;omega)
  have k14:=DU a.epoch (by have :=sm.epoch;omega) (by have :=sm.epoch;omega)
  have k15:=DU (a.wraps.length:Int) (by have :=sm.wraps;omega) (by omega)
  rw[H9]at k15;have k16:=DU a.n (by have :=sm.n;omega) (by have :=sm.n;omega)
  have k17:=DU a.m (by have :=sm.m;omega) (by have :=sm.m;omega)
  have hwr:=sm.wraps;have hlp:(I6 a).length≤2000000000000:=by
   unfold I6;simp only[List.length_append];omega
  rw[ZgZ];have hsz:AK 5 (a.wraps.map Bj)=true:=BG 5 Bj (fun _=>rfl) _
  clear hr sm h;refine run ?_;refine cp k1 ?_;refine run ?_;refine cp k2 ?_;refine run ?_;refine cp k3 ?_;refine run ?_;refine cp k4 ?_;refine run ?_;refine cp k5 ?_;refine run ?_;refine cp k6 ?_;refine run ?_;refine cp k7 ?_;refine run ?_;refine cp k8 ?_;refine run ?_;refine cp k9 ?_;refine run ?_;refine cp k10 ?_;refine run ?_;refine cp k11 ?_;refine run ?_;refine cp k12 ?_;refine run ?_;refine cp k13 ?_;refine run ?_;refine cp k14 ?_;refine run ?_;refine cp k15 ?_;clear k1 k2 k3 k4 k5 k6 k7 k8 k9 k10 k11 k12 k13 k14 k15;refine run ?_;refine AN (fun m e S=>e 1=.ptr 0 0∧e 71=.sl .ro (a.wraps.map Bj)∧e 72=.it .i64 (a.wraps.length:Int) ∧ ∃(k:Nat) (T:Ae),e 73=.it .i64 (k:Int)∧e 3=.st (I6 a++((a.wraps.take k).map Cg).flatten)∧S=.cells (JA a)::T∧k≤a.wraps.length∧m=a.wraps.length-k) a.wraps.length
   ⟨Aa,Aa,Aa,0,[],Aa,by rw[List.take_zero,List.map_nil,List.flatten_nil,List.append_nil];exact Aa,rfl,by omega,rfl⟩ ?_
  clear q1 q2 q3 q4 q5 q6 q7 q8 q9 q10 q11 q12 q13 q14 q15;rintro m e S ⟨s1,s71,s72,k,T,s73,s3,rfl,hk,rfl⟩
  have hlen:=R1 hwr.2 hwr.1 k;by_cases hlt:k<a.wraps.length
  rotate_left
  ·obtain rfl:k=a.wraps.length:=by omega
   rw[List.take_length]at s3 hlen;generalize (a.wraps.map Cg).flatten=z at *;generalize I6 a=p at *;refine Ab (A5 @s1 @s71 @s72 @s73 @s3) ?_;refine cp k16 ?_;refine Ab (A5 @s1 @s71 @s72 @s73 @s3) ?_;refine cp k17 ?_;refine Ab (A5 @s1 @s71 @s72 @s73 @s3) ?_;exact Ad
  have hg:a.wraps[k]? = some a.wraps[k]:=List.getElem?_eq_getElem hlt
  have hx:=hwr.2 a.wraps[k] (List.getElem_mem hlt);have hstep:((a.wraps.take (k+1)).map Cg).flatten=((a.wraps.take k).map Cg).flatten++Cg a.wraps[k]:=by
   rw[List.take_succ_eq_append_getElem hlt,List.map_append,List.flatten_append];congr 1
   exact List.append_nil _
  have hT1:∀y:SObj,(T++[y])[T.length]? = some y:=fun y=>by simp
  have hT2:∀y z:SObj,(T++[y]).set T.length z=T++[z]:=fun y z=>by simp
  generalize a.wraps[k]=x at *;have hx':=M1 hx;have hbl:=MA x.box hx'.2.2;have hn1:=AI x.to (by omega)
  have hn2:=AI x.eph (by omega)
  generalize ((a.wraps.take k).map Cg).flatten=z at *;generalize I6 a=p at *;have hwl:=hwr.1;clear k16 k17 q16 q17 hwr;refine Ab (A9 @s1 @s71 @s72 @s73 @s3 @hg @hsz @hT1 @hT2) ?_;refine cp (DU x.to (by omega) (by omega)) ?_
  refine Ab (A7 @s1 @s71 @s72 @s73 @s3 @hT1 @hT2) ?_;refine cp (DU x.eph (by omega) (by omega)) ?_
  refine Ab (A7 @s1 @s71 @s72 @s73 @s3 @hT1 @hT2) ?_;refine cp (XW x.box hx'.2.2) ?_;refine Ab (A7 @s1 @s71 @s72 @s73 @s3 @hT1 @hT2) ?_;exact Aj (a.wraps.length-(k+1)) (by omega) ⟨Aa,Aa,Aa,k+1,_,Aa,by rw[hstep];unfold Cg;simp only[List.append_assoc];exact Aa,rfl,by omega,rfl⟩
theorem Q5{a:Ac.Act}:(Bx a).length≤100000:=by
 unfold Bx;split
 ·rename_i hr
  have sm:=Cp hr;have q1:(text FN).length=4:=by rfl
  have tl:∀(s:By) (n:Nat),s.length≤n→n≤1000→(text s).length≤n+9:=fun s n h h'=>by
   have :=EJ (n:=s.length) (by omega)
   unfold text;rw[List.length_append];omega
  have q2:=tl a.author 16 (by have :=sm.author;omega) (by omega)
  have q3:=AI a.seq (by have :=sm.seq;omega)
  have q4:=tl a.prev 32 (by have :=sm.prev;omega) (by omega)
  have q5:=AI a.kind (by have :=sm.kind;omega)
  have q6:=AI a.time (by have :=sm.time;omega)
  have q7:=tl a.object 32 (by have :=sm.object;omega) (by omega)
  have q8:=tl a.target 16 (by have :=sm.target;omega) (by omega)
  have q9:=AI a.scope (by have :=sm.scope;omega)
  have q10:=tl a.group 24 (by have :=sm.group;omega) (by omega)
  have q12:=tl a.text 500 (by have :=sm.text;omega) (by omega)
  have bl:∀b:Box,b.nonce.length≤32∧b.data.length≤500∧b.tag.length≤16→(FG b).length≤575:=fun b h=>by
   have l1:=tl b.nonce 32 h.1 (by omega)
   have l2:=tl b.data 500 h.2.1 (by omega)
   have l3:=tl b.tag 16 h.2.2 (by omega)
   unfold FG;simp only[List.length_append];omega
  have q13:=bl a.body sm.body;have q14:=AI a.epoch (by have :=sm.epoch;omega)
  have q15:=EJ (n:=a.wraps.length) (by have :=sm.wraps;omega)
  have q16:=AI a.n (by have :=sm.n;omega)
  have q17:=AI a.m (by have :=sm.m;omega)
  have q11:(list a.to).length≤2000:=by
   have h1:=EJ (n:=a.to.length) (by have :=sm.to;omega)
   have h2:∀l:List By,(∀s∈l,s.length=16)→(l.map text).flatten.length≤l.length*25:=fun l=>by
    induction l with
    |nil=>intro _;simp
    |cons s l ih=>
     intro h;have e1:=tl s 16 (by have :=h s (by simp);omega) (by omega)
     have e2:=ih fun x hx=>h x (by simp[hx])
     rw[List.map_cons,List.flatten_cons,List.length_append,List.length_cons,Nat.succ_mul];omega
   have h3:=h2 a.to sm.to.2;have h4:a.to.length*25≤64*25:=Nat.mul_le_mul_right _ sm.to.1;unfold list;rw[List.length_append];omega
  have q18:(a.wraps.map Cg).flatten.length≤40000:=by
   have h2:∀l:List Wrap,(∀w∈l,Cv w=true)→(l.map Cg).flatten.length≤l.length*593:=fun l=>by
    induction l with
    |nil=>intro _;simp
    | cons w l ih=>
     intro h;have hw:=h w (by simp)
     have hw2:=M1 hw;simp only[Cv,Bool.and_eq_true]at hw;have hb:=PC hw.2;have e0:=bl w.box (by omega)
     have e1:=AI w.to (by omega)
     have e2:=AI w.eph (by omega)
     have e3:=ih fun x hx=>h x (by simp[hx])
     have e4:(Cg w).length≤593:=by
      unfold Cg;simp only[List.length_append];omega
     rw[List.map_cons,List.flatten_cons,List.length_append,List.length_cons,Nat.succ_mul];omega
   have h3:=h2 a.wraps sm.wraps.2;have h4:a.wraps.length*593≤64*593:=Nat.mul_le_mul_right _ sm.wraps.1;omega
  unfold Gt;simp only[List.length_append];omega
 ·simp
theorem OB{a:Ac.Act}:(Bx a).length≤100000000:=Nat.le_trans Q5 (by omega)
theorem Rb{a:Ac.Act}:(Ac.bytes a).length≤100018:=by
 unfold Ac.bytes;split
 ·rename_i hr
  have sm:=(Cp hr).sig;simp only[BQ,Bool.and_eq_true,Ch]at sm;have h:=Q5 (a:=a);unfold Bx at h;rw[if_pos hr]at h;have n1:=AI a.sig.e (by omega)
  have n2:=AI a.sig.s (by omega)
  simp only[List.length_append];omega
 ·simp
theorem ZhL(a:Ac.Act)(h:Sz a):AC prog 92 [Am a] [] (.st (Ac.bytes a)) []:=by
 refine Ar [113,111] [] func92 ?_;have hl:=OB (a:=a);rw[ZhK];refine run ?_;refine cp (Xr a h) ?_;by_cases hc:Bx a=[]
 ·rw[if_pos hc]
  rw[hc];refine run ?_;exact Ad
 ·rw[if_neg hc]
  have hb:(Bx a==[])=false:=by simpa using hc
  have hr:right a=true:=by
   cases hr:right a with
   |true=>rfl
   |false=>exact absurd (bytes_wrong hr).2 hc
  have hs:=(Cp hr).sig;simp only[BQ,Bool.and_eq_true,Ch]at hs;have n1:=AI a.sig.e (by omega)
  have n2:=AI a.sig.s (by omega)
  generalize Bx a=c at *;refine Ab @hb ?_;refine cp (DU a.sig.e (by omega) (by omega)) ?_
  refine Ab @hb ?_;refine cp (DU a.sig.s (by omega) (by omega)) ?_
  refine Ab @hb ?_;exact Ad
theorem Sw(p:Int)(a:Ac.Act)(h:Sz a)(hp:-9223372036854775808≤p∧p≤9223372036854775807):AC prog 51 [.it .i64 p,Am a] [] (.bo (BO p a)) []:=by
 refine Ar [85,113,112] [] func51 ?_;unfold BO;have hl:=OB (a:=a);refine run ?_;refine cp (NK a h) ?_;cases hr:right a with
 |false=>refine run ?_;exact Ad
 |true=>
  have hs:=(Cp hr).sig;simp only[BQ,Bool.and_eq_true,Ch]at hs;refine run ?_;refine cp (Xr a h) ?_;refine run ?_;refine cp (Zaw p (Bx a) a.sig hl hp (by omega)) ?_
  refine run ?_;exact Ad
end Pe
end
section
namespace Pe
open Tryz
open Go Go.RowKit Co Sg Ac It
set_option maxRecDepth 100000
set_option maxHeartbeats 4000000
abbrev Mu(c:It.Claim):AV:=.agg [.st c.actor,.it .i64 c.base,.st c.prev,.it .i64 c.gen,.it .i64 c.home,.it .i64 c.pub,.it .i64 c.time,.it .i64 c.sig.e,.it .i64 c.sig.s]
abbrev Mp(d:It.Decision):AV:=.agg [.it .i64 d.server,.it .i64 d.number,.it .i64 d.kind,.st d.actor,.st d.object,.st d.text,Av d.to,.it .i64 d.n,.it .i64 d.frm,.it .i64 d.til,.it .i64 d.sig.e,.it .i64 d.sig.s]
abbrev G7(i:It.Item):List AV:=[.it .i64 i.kind,.st i.act.author,.it .i64 i.act.seq,.st i.act.prev,.it .i64 i.act.kind,.it .i64 i.act.time,.st i.act.object,.st i.act.target,.it .i64 i.act.scope,.st i.act.group,Av i.act.to,.st i.act.text,.st i.act.body.nonce,.st i.act.body.data,.st i.act.body.tag,.it .i64 i.act.epoch,.sl .ro (i.act.wraps.map Bj),.it .i64 i.act.n,.it .i64 i.act.m,.it .i64 i.act.sig.e,.it .i64 i.act.sig.s,.st i.claim.actor,.it .i64 i.claim.base,.st i.claim.prev,.it .i64 i.claim.gen,.it .i64 i.claim.home,.it .i64 i.claim.pub,.it .i64 i.claim.time,.it .i64 i.claim.sig.e,.it .i64 i.claim.sig.s,.it .i64 i.ballot.server,.st i.ballot.actor,.it .i64 i.ballot.gen,.st i.ballot.claim,.it .i64 i.ballot.time,.it .i64 i.ballot.sig.e,.it .i64 i.ballot.sig.s,.it .i64 i.decision.server,.it .i64 i.decision.number,.it .i64 i.decision.kind,.st i.decision.actor,.st i.decision.object,.st i.decision.text,Av i.decision.to,.it .i64 i.decision.n,.it .i64 i.decision.frm,.it .i64 i.decision.til,.it .i64 i.decision.sig.e,.it .i64 i.decision.sig.s]
abbrev Be(i:It.Item):AV:=.agg [.it .i64 i.kind,.st i.act.author,.it .i64 i.act.seq,.st i.act.prev,.it .i64 i.act.kind,.it .i64 i.act.time,.st i.act.object,.st i.act.target,.it .i64 i.act.scope,.st i.act.group,Av i.act.to,.st i.act.text,.st i.act.body.nonce,.st i.act.body.data,.st i.act.body.tag,.it .i64 i.act.epoch,.sl .ro (i.act.wraps.map Bj),.it .i64 i.act.n,.it .i64 i.act.m,.it .i64 i.act.sig.e,.it .i64 i.act.sig.s,.st i.claim.actor,.it .i64 i.claim.base,.st i.claim.prev,.it .i64 i.claim.gen,.it .i64 i.claim.home,.it .i64 i.claim.pub,.it .i64 i.claim.time,.it .i64 i.claim.sig.e,.it .i64 i.claim.sig.s,.it .i64 i.ballot.server,.st i.ballot.actor,.it .i64 i.ballot.gen,.st i.ballot.claim,.it .i64 i.ballot.time,.it .i64 i.ballot.sig.e,.it .i64 i.ballot.sig.s,.it .i64 i.decision.server,.it .i64 i.decision.number,.it .i64 i.decision.kind,.st i.decision.actor,.st i.decision.object,.st i.decision.text,Av i.decision.to,.it .i64 i.decision.n,.it .i64 i.decision.frm,.it .i64 i.decision.til,.it .i64 i.decision.sig.e,.it .i64 i.decision.sig.s]
structure Lz(i:It.Item):Prop where
 to:i.act.to.length≤140737488355328
 wraps:i.act.wraps.length≤140737488355328
 dto:i.decision.to.length≤140737488355328
structure Dz(d:It.Decision):Prop where
 actor:d.actor.length≤140737488355328
 to:d.to.length≤140737488355328
 tos:∀s∈d.to,s.length≤140737488355328
structure Iz(i:It.Item):Prop where
 act:Sz i.act
 claim:i.claim.actor.length≤140737488355328
 ballot:i.ballot.actor.length≤140737488355328
 decision:Dz i.decision
 act1:∃a,i=Ay a∧(Ac.right a=true∨a=Al)
theorem Zf8:AC prog 265 [.sl .ro [],.sl .ro []] [] (.bo true) []:=Zf7 [] [] (by decide) (by decide)
theorem WM:AC prog 142 [.sl .ro [],.sl .ro []] [] (.bo true) []:=WL [] [] (by decide) (by decide)
theorem ZbQ:AC prog 166 [Am Al,Am Al] [] (.bo true) []:=by
 refine Ar [142,265] [] func166 ?_;refine run ?_;refine cp WM ?_;refine run ?_;refine cp Zf8 ?_;refine run ?_;exact Ad
theorem ZbO:AC prog 167 [Mp FF,Mp FF] [] (.bo true) []:=by
 refine Ar [142] [] func167 ?_;refine run ?_;refine cp WM ?_;refine run ?_;exact Ad
theorem ZbN:AC prog 89 [Be Et,Be Et] [] (.bo true) []:=by
 refine Ar [166,167] [] func89 ?_;refine run ?_;refine cp ZbQ ?_;refine run ?_;refine cp ZbO ?_;refine run ?_;exact Ad
theorem PK(a:Ac.Act):It.right (Ay a)=Ac.right a:=by
 unfold It.right I0 rest;rw[if_pos (show(Ay a).kind=0 from rfl),if_pos (show(Ay a).kind=0 from rfl),decide_eq_true (show({ Ay a with kind:=0,act:=Al }:It.Item)=Et from rfl),Bool.and_true]
 rfl
theorem LD(i:It.Item)(h:Iz i):AC prog 39 [Be i] [] (.bo (It.right i)) []:=by
 obtain⟨hs,_,_,_,a,rfl,_⟩:=h;rw[PK];have q0:((Ay a).kind==0)=true:=rfl;refine Ar [85,86,87,88,89] [] func39 ?_;refine Ab @q0 ?_;refine cp (NK a hs) ?_;cases hr:Ac.right a with
 |false=>refine run ?_;exact Ad
 |true=>
  refine run ?_;refine cp ZbN ?_;refine run ?_;exact Ad
theorem Ao.reserveC[Tab](N0:Nat){e:Af}{S:Ae}(l:Nat){es:List AV}(hS:S[l]? = some (.cells [.sl .full es]))(ty:TypeId)(sz:Nat):Ao N0 e S e (S.set l (.cells [.sl (.own S.length) es])++[.buf es.length ty sz]):=by
 rintro N w0 g0 a w hn ⟨h1,h2,g,h3,h4,h5⟩
 obtain⟨g',h6,h7,h8,h9,h10⟩:=h3.reserve es.length ty sz;have hlS:=(List.getElem?_eq_some_iff.1 hS).1
 have hn3:=h3.nid;have hn6:=h6.nid;rw[List.length_append,List.length_singleton]at hn6;refine⟨h1,h2,g',⟨by rw[List.length_append,List.length_set,List.length_singleton];exact hn6,fun k o hk=>?_,h6.disj,h6.lt,h6.tab⟩,fun t=>(h4 t).le h7.toLe,h5.trans h7⟩
 by_cases hkl:k=l
 ·subst hkl
  rw[List.getElem?_append_left (by rw[List.length_set];exact hlS),List.getElem?_set_self hlS]at hk
  cases hk
  obtain⟨k1,k2,k3,arr,T,fr,k4,k5,k6,k7,k8⟩:=h6.obj k (.cells [.sl .full es]) (Jo hS _);refine⟨k1,k2,k3,arr,T,fr,k4,k5,by simpa using k6,k7,fun j u v hu hv=>?_⟩
  cases j with
  |zero=>
   simp only[List.getElem?_cons_zero,Option.some.injEq]at hu
   subst hu;refine(k8 0 _ v rfl hv).own_full (by omega) ?_ ?_
   ·rw[←hn3];exact h9
   ·rw[←hn3];exact h10
  |succ j=>simp at hu
 ·refine h6.obj k o ?_
  by_cases hkS:k<S.length
  ·rw[List.getElem?_append_left (by rw[List.length_set];exact hkS),List.getElem?_set_ne (Ne.symm hkl)]at hk
   rw[List.getElem?_append_left hkS]
   exact hk
  ·rw[List.getElem?_append_right (by rw[List.length_set];omega),List.length_set]at hk
   rw[List.getElem?_append_right (by omega)]
   exact hk
abbrev BV(ty:TypeId)(acc:By):Ae:=[.cells [.sl (.own 1) (acc.map u8)],.buf acc.length ty 1]
section
variable [Tab] {P:Program} {pf rf:List FuncId} {e:Af} {f:FuncId} {d:Option Nat} {rest:List AO} {K:Af→Ae→Prop}
theorem ZhG{args gargs:List AV}{T:Ae}{acc':By}{v:AV}{ty:TypeId}(l:Nat)(h:AC P f (.ptr 0 0::args) [.cells [.sl .full []]] v (BV ty acc'))
  (h':BA P pf rf rest (put e d v) (T.set l (.cells [.sl (.own T.length) (acc'.map u8)])++[.buf acc'.length ty 1]) K)
  (ha:args.all (AV.ok 0)=true:=by rfl)(hv:v.ok 0=true:=by rfl)(hT:T[l]? = some (.cells [.sl .full []]):=by rfl)
  (hg:gargs.map AV.wk=.ptr l 0::args:=by rfl):DG (KI P f gargs T) (F8 P pf rf d rest e K):=by
 refine AZ (show AC P f (gargs.map AV.wk) T v _ from ?_) h'
 rw[hg];have ha1:∀u∈args,u.ok 1=true:=fun u hu=>Fx (List.all_eq_true.1 ha u hu) (Nat.zero_le 1)
 have :=h.frame (T:=T) [l] (Lq l rfl hT) (by simp only[List.all_cons,Bool.and_eq_true];exact⟨rfl,List.all_eq_true.2 ha1⟩) (Fx hv (Nat.zero_le 2)) (fun i o hi=>by
  match i,hi with
  |0,hi=>cases hi;rfl
  |1,hi=>cases hi;rfl)
 rw[List.map_cons,PL ha,DR hv (fun i hi=>absurd hi (Nat.not_lt_zero _))]at this
 simpa[after,E1,ext,AH,SObj.ren,AV.r1,AV.r0,Mode.ren,AV.ren,AV.r2] using this
theorem Zge{rs:List ResultVar}{v:AV}{S:Ae}{o o':SObj}{vs:List AV}{N0:Nat}(hn:[0,1].take N0=List.range N0)(h:C9 P rs e S=some vs:=by rfl)(ho:o.ok 2=true:=by rfl)(ho':o'.ok 2=true:=by rfl)
  (hS:S[0]? = some (o.ren (AH [0,1])):=by rfl)(hS':S[1]? = some (o'.ren (AH [0,1])):=by rfl)(hk:v.ok 2=true:=by rfl)(hv:DO vs=v.ren (AH [0,1]):=by rfl):Dr P rs N0 v [o,o'] .norm e S:=
 ⟨e,S,vs,[0,1],Ao.refl N0 e S,h,Pp 0 1 (by decide) ho ho' hS hS',hn,hk,.inl hv⟩
end
theorem ZhP(ty:TypeId)(a b:By):[SObj.cells [.sl (.own 1) (a.map u8++b.map u8)],.buf (a.length+b.length) ty 1]=BV ty (a++b):=by
 show _=[SObj.cells [.sl (.own 1) ((a++b).map u8)],.buf (a++b).length ty 1]
 rw[List.map_append,List.length_append]
theorem ZfH{α:Type}(g:α→By){l:List α}{k:Nat}(hk:k<l.length):((l.take (k+1)).map g).flatten=((l.take k).map g).flatten++g l[k]:=by
 rw[List.take_succ_eq_append_getElem hk,List.map_append,List.flatten_append];congr 1
 exact List.append_nil _
theorem ZfK{α:Type}(g:α→By)(l:List α)(B k:Nat)(h:∀x∈l,(g x).length≤B):((l.take k).map g).flatten.length≤k*B:=by
 induction l generalizing k with
 |nil=>simp
 | cons a l ih=>
  cases k with
  |zero=>simp
  |succ k=>
   have h1:=h a (by simp)
   have h2:=ih k fun x hx=>h x (by simp[hx])
   simp only[List.take_succ_cons,List.map_cons,List.flatten_cons,List.length_append,Nat.succ_mul];omega
theorem Zdx(l:List Int)(hl:l.length≤100)(h:∀x∈l,-9223372036854775808≤x∧x≤9223372036854775807):AC prog 91 [.ptr 0 0,.sl .ro (l.map (AV.it .i64))] [.cells [.sl .full []]] (.tup []) (BV 5 ((l.map Ai).flatten)):=by
 refine Ar [111] [] func91 ?_;refine run ?_;refine Cq (fun m e S=>e 0=.ptr 0 0∧e 6=.sl .ro (l.map (AV.it .i64))∧e 7=.it .i64 (l.length:Int) ∧ ∃(k:Nat) (cur:By),e 8=.it .i64 (k:Int)∧S=BV 5 cur∧cur=((l.take k).map Ai).flatten∧k≤l.length∧m=l.length-k) l.length _ _ (Ao.reserveC 1 0 (es:=[]) (by rfl) 5 1)
  ⟨Aa,Aa,Aa,0,[],Aa,rfl,by simp,by omega,rfl⟩ ?_
 rintro m e S ⟨s0,s6,s7,k,cur,s8,rfl,hcur,hk,rfl⟩
 have hb:=ZfK Ai l 9 k (fun x hx=>AI x (by have :=h x hx;omega))
 have hk100:k*9≤100*9:=Nat.mul_le_mul_right _ (by omega)
 have hcl:cur.length≤100*9:=by rw[hcur];exact Nat.le_trans hb hk100
 by_cases hlt:k<l.length
 rotate_left
 ·obtain rfl:k=l.length:=by omega
  rw[List.take_length]at hcur;rw[←hcur];refine Ab (A4 @s0 @s6 @s7 @s8) ?_;exact Zge rfl
 have hg:l[k]? = some l[k]:=List.getElem?_eq_getElem hlt
 have hx:=h l[k] (List.getElem_mem hlt);have hst:=ZfH Ai hlt;have hbx:=((fun x hx=>AI x (by have :=h x hx;omega))) l[k] (List.getElem_mem hlt)
 generalize l[k]=x at *;have hsz:AK 1 (l.map (AV.it .i64))=true:=BG 1 _ (fun _=>rfl) _
 refine Ab (A6 @s0 @s6 @s7 @s8 @hg @hsz) ?_;refine cp (DU x (by omega) (by omega)) ?_
 refine Ab (A4 @s0 @s6 @s7 @s8) ?_;exact Aj (l.length-(k+1)) (by omega) ⟨Aa,Aa,Aa,k+1,cur++Ai x,Aa,ZhP _ _ _,by rw[hst,hcur],by omega,rfl⟩
structure Ez(i:It.Item):Prop where
 c:i.claim.actor.length≤1000000∧i.claim.prev.length≤1000000
 ci:∀x∈[i.claim.base,i.claim.gen,i.claim.home,i.claim.pub,i.claim.time],-9223372036854775808≤x∧x≤9223372036854775807
 b:i.ballot.actor.length≤1000000∧i.ballot.claim.length≤1000000
 bi:∀x∈[i.ballot.server,i.ballot.gen,i.ballot.time],-9223372036854775808≤x∧x≤9223372036854775807
 d:i.decision.actor.length≤1000000∧i.decision.object.length≤1000000∧i.decision.text.length≤1000000
 dt:i.decision.to.length≤1000000 ∧ ∀s∈i.decision.to,s.length≤1000000
 di:∀x∈[i.decision.server,i.decision.number,i.decision.kind,i.decision.n,i.decision.frm,i.decision.til],-9223372036854775808≤x∧x≤9223372036854775807
theorem ZfL(g:Int→By)(a:Int):([a].map g).flatten=g a:=by simp
end Pe
namespace Pe
open Tryz
open Go Go.RowKit Co Sg Ac It
set_option maxRecDepth 100000
set_option maxHeartbeats 4000000
theorem ZfU{c:It.Claim}(h:I2 c=true∨c=Ei):(c.actor.length≤1000000∧c.prev.length≤1000000) ∧ ∀x∈[c.base,c.gen,c.home,c.pub,c.time],-9223372036854775808≤x∧x≤9223372036854775807:=by
 rcases h with h|rfl
 ·have s:=XF h
  have h1:=s.actor;have h2:=s.base;have h3:=s.prev;have h4:=s.gen;have h5:=s.home;have h6:=s.pub;have h7:=s.time;simp only[List.forall_mem_cons,List.not_mem_nil,false_implies,implies_true,and_true];omega
 ·decide
theorem ZfV{b:It.Ballot}(h:I3 b=true∨b=Gv):(b.actor.length≤1000000∧b.claim.length≤1000000) ∧ ∀x∈[b.server,b.gen,b.time],-9223372036854775808≤x∧x≤9223372036854775807:=by
 rcases h with h|rfl
 ·have s:=Yl h
  have h1:=s.actor;have h2:=s.server;have h3:=s.claim;have h4:=s.gen;have h5:=s.time;simp only[List.forall_mem_cons,List.not_mem_nil,false_implies,implies_true,and_true];omega
 ·decide
theorem WA{d:It.Decision}(h:I1 d=true∨d=FF):(d.actor.length≤1000000∧d.object.length≤1000000∧d.text.length≤1000000)∧(d.to.length≤64 ∧ ∀s∈d.to,s.length≤16) ∧ ∀x∈[d.server,d.number,d.kind,d.n,d.frm,d.til],-9223372036854775808≤x∧x≤9223372036854775807:=by
 rcases h with h|rfl
 ·have s:=Xg h
  have h1:=s.actor;have h2:=s.server;have h3:=s.number;have h4:=s.kind;have h5:=s.object;have h6:=s.text;have h7:=s.to;have h8:=s.n;have h9:=s.frm;have h10:=s.til;simp only[List.forall_mem_cons,List.not_mem_nil,false_implies,implies_true,and_true];refine⟨by omega,⟨h7.1,fun s hs=>Nat.le_of_eq (h7.2 s hs)⟩,by omega⟩
 ·decide
theorem TF{i:It.Item}(h:It.right i=true):(Ac.right i.act=true∨i.act=Al)∧(I2 i.claim=true∨i.claim=Ei)∧(I3 i.ballot=true∨i.ballot=Gv)∧(I1 i.decision=true∨i.decision=FF):=by
 rcases NJ h with e|e|e|e
 ·obtain⟨q1,q2,q3,q4⟩:=(TJ e).1 h
  exact⟨.inl q1,.inr q2,.inr q3,.inr q4⟩
 ·obtain⟨q1,q2,q3,q4⟩:=(TH e).1 h
  exact⟨.inr q2,.inl q1,.inr q3,.inr q4⟩
 ·obtain⟨q1,q2,q3,q4⟩:=(TI e).1 h
  exact⟨.inr q2,.inr q3,.inl q1,.inr q4⟩
 ·obtain⟨q1,q2,q3,q4⟩:=(TG e).1 h
  exact⟨.inr q2,.inr q3,.inr q4,.inl q1⟩
theorem ZfX{i:It.Item}(hc:I2 i.claim=true∨i.claim=Ei)(hb:I3 i.ballot=true∨i.ballot=Gv)(hd:I1 i.decision=true∨i.decision=FF):Ez i:=by
 have c:=ZfU hc;have b:=ZfV hb;have d:=WA hd;exact⟨c.1,c.2,b.1,b.2,d.1,⟨by have :=d.2.1.1;omega,fun s hs=>by have :=d.2.1.2 s hs;omega⟩,d.2.2⟩
theorem ZfW{i:It.Item}(h:It.right i=true):Ez i:=have p:=TF h;ZfX p.2.1 p.2.2.1 p.2.2.2
theorem Zbr{i:It.Item}(h:It.right i=true)(h0:i.kind≠0):BQ (IU i)=true:=by
 unfold IU;rcases NJ h with e|e|e|e
 ·exact absurd e h0
 ·rw[if_pos e];exact(XF ((TH e).1 h).1).sig
 ·rw[if_neg (by omega),if_pos e];exact(Yl ((TI e).1 h).1).sig
 ·rw[if_neg (by omega),if_neg (by omega)];exact(Xg ((TG e).1 h).1).sig
theorem Zec{l:List By}(h:l.length≤64 ∧ ∀s∈l,s.length≤16):(list l).length≤2000:=by
 have h1:=EJ (n:=l.length) (by have :=h.1;omega)
 have h2:∀l:List By,(∀s∈l,s.length≤16)→(l.map text).flatten.length≤l.length*25:=fun l=>by
  induction l with
  |nil=>intro _;simp
  | cons s l ih=>
   intro h;have e0:=h s (by simp)
   have e1:(text s).length≤25:=by
    have :=EJ (n:=s.length) (by omega)
    unfold text;rw[List.length_append];omega
   have e2:=ih fun x hx=>h x (by simp[hx])
   rw[List.map_cons,List.flatten_cons,List.length_append,List.length_cons,Nat.succ_mul];omega
 have h3:=h2 l h.2;have h4:l.length*25≤64*25:=Nat.mul_le_mul_right _ h.1;unfold list;rw[List.length_append];omega
structure Sh(i:It.Item):Prop where
 ez:Ez i
 to:(list i.decision.to).length≤50000000
theorem ZbA{i:It.Item}(h:It.right i=true):Sh i:=⟨ZfW h,by have :=Zec (WA (TF h).2.2.2).2.1;omega⟩
theorem Zhh{i:It.Item}(h:Ez i):(Q6 i.claim).length≤10000000:=by
 have h1:=h.c;have h2:=h.ci;simp only[List.forall_mem_cons]at h2;have l1:=BL h1.1;have l2:=BL h1.2;have n1:=AI i.claim.base (by omega)
 have n2:=AI i.claim.gen (by omega)
 have n3:=AI i.claim.home (by omega)
 have n4:=AI i.claim.pub (by omega)
 have n5:=AI i.claim.time (by omega)
 unfold Q6;simp only[List.length_append];omega
theorem ZhX{i:It.Item}(h:Ez i):(Rk i.ballot).length≤10000000:=by
 have h1:=h.b;have h2:=h.bi;simp only[List.forall_mem_cons]at h2;have l1:=BL h1.1;have l2:=BL h1.2;have n1:=AI i.ballot.server (by omega)
 have n2:=AI i.ballot.gen (by omega)
 have n3:=AI i.ballot.time (by omega)
 unfold Rk;simp only[List.length_append];omega
theorem ZgP{i:It.Item}(h:Sh i):(Q2 i.decision).length≤60000000:=by
 have h1:=h.ez.d;have h2:=h.ez.di;have h3:=h.to;simp only[List.forall_mem_cons]at h2;have l1:=BL h1.1;have l2:=BL h1.2.1;have l3:=BL h1.2.2;have n1:=AI i.decision.server (by omega)
 have n2:=AI i.decision.number (by omega)
 have n3:=AI i.decision.kind (by omega)
 have n4:=AI i.decision.n (by omega)
 have n5:=AI i.decision.frm (by omega)
 have n6:=AI i.decision.til (by omega)
 unfold Q2;simp only[List.length_append];omega
theorem ZgW{i:It.Item}(h:Sh i):(OC i).length≤60000000:=by
 have h1:=Zhh h.ez;have h2:=ZhX h.ez;have h3:=ZgP h;unfold OC;split
 ·omega
 split<;>omega
theorem XT{i:It.Item}(h:It.right i=true)(h0:i.kind=0):It.bytes i=Ai i.kind++Ac.bytes i.act:=by
 rw[Mx h];unfold OI;rw[if_pos h0]
theorem ZhN(i:It.Item)(h:Iz i)(h0:i.kind=0)(hr:It.right i=true):AC prog 45 [Be i] [] (.st (It.bytes i)) []:=by
 refine Ah [39,92,93] [] func45 ?_;have kr:=LD i h;rw[hr]at kr;rw[XT hr h0];have k1:=Zdx [i.kind] (by simp) (by simp[h0])
 rw[ZfL]at k1;have hq:(i.kind==0)=true:=by rw[h0];rfl
 have k2:=ZhL i.act h.act;have hl:=Rb (a:=i.act);have hl0:=AI i.kind (by omega)
 generalize Ac.bytes i.act=z at *;generalize Ai i.kind=n0 at *;refine run ?_;refine cp kr ?_;refine Ab @hq ?_;refine ZhG 1 k1 ?_
 refine Ab @hq ?_;refine cp k2 ?_;have hmap:n0.map u8++z.map u8=(n0++z).map u8:=List.map_append.symm;have hlen:n0.length+z.length=(n0++z).length:=List.length_append.symm;generalize n0++z=c1 at *;refine Ab (A3 @hq @hmap @hlen) ?_;exact Ad
theorem ZhM(i:It.Item)(h:Iz i):AC prog 45 [Be i] [] (.st (It.bytes i)) []:=by
 cases hr:It.right i with
 |true=>
  refine ZhN i h ?_ hr
  obtain⟨a,rfl,_⟩:=h.act1;rfl
 |false=>
  refine Ah [39,92,93] [] func45 ?_;have kr:=LD i h;rw[hr]at kr;rw[It.bytes_wrong hr];refine run ?_;refine cp kr ?_;refine run ?_;exact Ad
theorem ZaY{a:Ac.Act}(h:Sm a):Sz a:=⟨by have :=h.author;omega,by have :=h.target;omega,by have :=h.group;omega,by have :=h.text;omega,fun s hs=>by have :=h.to.2 s hs;omega,by have :=h.to.1;omega,by have :=h.wraps.1;omega⟩
theorem ZaZ:Sz Al:=⟨by decide,by decide,by decide,by decide,by decide,by decide,by decide⟩
theorem Uu(s t:By)(h:s≠t):(s==t)=false:=by simpa using h
theorem Qp{a:Ac.Act}(h:Ac.right a=true∨a=Al):Iz (Ay a):=
 ⟨by rcases h with h|rfl;exact ZaY (Cp h);exact ZaZ,by show(0:Nat)≤_;omega,by show(0:Nat)≤_;omega,⟨by show(0:Nat)≤_;omega,by show(0:Nat)≤_;omega,(fun s hs=>nomatch hs)⟩,a,rfl,h⟩
theorem Dp{a:Ac.Act}(h:It.right (Ay a)=true):Iz (Ay a):=Qp (.inl (by rwa[PK]at h))
theorem XV(i:It.Item):(It.bytes i).length≤70000000:=by
 cases hr:It.right i with
 |false=>rw[It.bytes_wrong hr];decide
 | true=>
  have hk:=NJ hr;have n0:=AI i.kind (by omega)
  rw[Mx hr];unfold OI;rw[List.length_append];by_cases h0:i.kind=0
  ·rw[if_pos h0]
   have :=Rb (a:=i.act);omega
  ·rw[if_neg h0]
   have hs:=Zbr hr h0;simp only[BQ,Bool.and_eq_true,Ch]at hs;have n1:=AI (IU i).e (by omega)
   have n2:=AI (IU i).s (by omega)
   have hc:=ZgW (ZbA hr);simp only[List.length_append];omega
theorem Ku(i:It.Item)(h:Iz i):AC prog 19 [Be i] [] (.st (It.digest i)) []:=by
 refine Ar [45,46] [] func19 ?_;unfold It.digest;have hb:=ZhM i h;have hl:=XV i;generalize It.bytes i=bs at *;by_cases he:bs=[]
 ·rw[if_pos he]
  have hq:(bs==[])=true:=by rw[he];rfl
  refine run ?_;refine cp hb ?_;refine Ab @hq ?_;exact Ad
 ·rw[if_neg he]
  have hq:=Uu bs [] he;refine run ?_;refine cp hb ?_;refine Ab @hq ?_;refine cp (Px bs (by omega)) ?_
  refine run ?_;exact Ad
theorem P7(a:Ac.Act)(h:a.to.length≤1000000)(hw:a.wraps.length≤1000000):AC prog 18 [Am a] [] (Be (Ay a)) []:=by
 refine Ar [43,44] [] func18 ?_;refine run ?_;refine cp (XD a.to h) ?_;refine run ?_;refine cp (Zhd a.wraps hw) ?_;refine run ?_;exact Au
theorem Zbo(ps:List Int)(i:It.Item)(h:Iz i)(hps:∀p∈ps,-9223372036854775808≤p∧p≤9223372036854775807):AC prog 40 [.sl .ro (ps.map (AV.it .i64)),Be i] [] (.bo (It.signed ps i)) []:=by
 refine Ar [39,90] [] func40 ?_;have kr:=LD i h;unfold It.signed;cases hr:It.right i with
 |false=>
  rw[hr]at kr;refine run ?_;refine cp kr ?_;refine run ?_;exact Ad
 |true=>
  rw[hr]at kr;rw[if_pos rfl];have h0:i.kind=0:=by obtain⟨a,rfl,_⟩:=h.act1;rfl
  rw[if_neg (by omega)]
  have q2:(i.kind==2)=false:=Cb (by omega)
  have q3:(i.kind==3)=false:=Cb (by omega)
  refine run ?_;refine cp kr ?_;refine Ab (an @q2 @q3) ?_;exact Ad
end Pe
end
section
namespace Pe
open Tryz
open Go Go.RowKit Co Sg Ac
set_option maxRecDepth 100000
set_option maxHeartbeats 4000000
theorem ZaX{a:Ac.Act}(h:Sm a):Sz a:=⟨by have :=h.author;omega,by have :=h.target;omega,by have :=h.group;omega,by have :=h.text;omega,fun s hs=>by have :=h.to.2 s hs;omega,by have :=h.to.1;omega,by have :=h.wraps.1;omega⟩
theorem SJ{a:Ac.Act}(h:right a=true):Sz a:=ZaX (Cp h)
structure In(a:Ac.Act):Prop where
 sz:Sz a
 prev:a.prev.length≤140737488355328
 object:a.object.length≤140737488355328
 body:a.body.nonce.length≤140737488355328∧a.body.data.length≤140737488355328∧a.body.tag.length≤140737488355328
 ws:∀w∈a.wraps,w.box.nonce.length≤140737488355328∧w.box.data.length≤140737488355328∧w.box.tag.length≤140737488355328
 ints:(-9223372036854775808≤a.epoch∧a.epoch≤9223372036854775807)∧(-9223372036854775808≤a.m∧a.m≤9223372036854775807)
end Pe
end
section
namespace Pe
open Tryz
open Go Go.RowKit Co Sg Ac It
set_option maxRecDepth 100000
set_option maxHeartbeats 4000000
structure IzO(i:It.Item):Prop where
 act:Sz i.act
 claim:i.claim.actor.length≤140737488355328
 ballot:i.ballot.actor.length≤140737488355328
 decision:Dz i.decision
structure InI(i:It.Item):Prop where
 act:In i.act
 iz:IzO i
 ci:∀x∈[i.claim.base,i.claim.gen,i.claim.home,i.claim.pub,i.claim.time],-9223372036854775808≤x∧x≤9223372036854775807
 bi:∀x∈[i.ballot.server,i.ballot.gen,i.ballot.time],-9223372036854775808≤x∧x≤9223372036854775807
 di:∀x∈[i.decision.server,i.decision.number,i.decision.kind,i.decision.n,i.decision.frm,i.decision.til],-9223372036854775808≤x∧x≤9223372036854775807
 si:∀x∈[i.claim.sig.e,i.claim.sig.s,i.ballot.sig.e,i.ballot.sig.s,i.decision.sig.e,i.decision.sig.s],-9223372036854775808≤x∧x≤9223372036854775807
end Pe
end
end Go.Proofs.YtipfggegddlgdaaGreatDoor
