import Derived.Test.YtipfggegddlgdaaGreatDoorKw1
import Derived.Test.YtipfggegddlgdaaGreatDoorKw2
import Derived.Test.YtipfggegddlgdaaGreatDoorKw21
set_option linter.unusedSectionVars false
set_option linter.unusedVariables false
set_option linter.unusedSimpArgs false
namespace Go.Proofs.YtipfggegddlgdaaGreatDoor
section
namespace Pe
open Tryz
open Go Go.RowKit Co Sg Ac It Sl Tp
set_option maxRecDepth 100000
set_option maxHeartbeats 4000000
theorem ZfO{α:Type}(p:α→Bool)(l:List α)(k:Nat)(h:k<l.length):(l.take (k+1)).filter p=(l.take k).filter p++if p l[k]=true then [l[k]]else []:=by
 rw[List.take_succ_eq_append_getElem h,List.filter_append];congr 1
 simp only[List.filter_cons,List.filter_nil]
theorem ZeH(ps:List Int)(l:List Ac.Act)(id:By)(hl:l.length≤1000)(hr:Bg l):AC prog 119 [DX ps l,.st id] [] (Bu (BK l id)) []:=by
 have ks:=Zeo l hl hr;have hL:=Pt l [];rw[List.length_nil]at hL;unfold BK;generalize D9 [] l=L at *;have hsz:=EL L;refine Ah [193] [] func119 ?_;refine run ?_;refine cp ks ?_;refine run ?_;refine Cq (fun m e S=>e 1=.st id∧e 5=.sl .ro (L.map Ba) ∧ ∃(k:Nat) (acc:List Ac.Act) (T:Ae),e 7=.it .i64 (k:Int)∧e 6=.sl (.own 1) (acc.map Am)∧S=.cells [AP ps,.sl .ro (l.map Ba)]::.buf acc.length 45 20::T∧acc=(L.take k).filter (fun a=>a.author==id)∧k≤L.length∧m=L.length-k) L.length _ _ (Ao.reserve 0 6 (es:=[]) (by rfl) 45 20)
  ⟨Aa,Aa,0,[],[],Aa,Aa,rfl,by simp,by omega,rfl⟩ ?_
 rintro m e S ⟨s1,s5,k,acc,T,s7,s6,rfl,hacc,hk,rfl⟩
 have hal:acc.length≤k:=by
  rw[hacc];exact Nat.le_trans (List.length_filter_le _ _) (by rw[List.length_take];omega)
 have hsa:=BX acc;by_cases hlt:k<L.length
 ·have hg:L[k]? = some L[k]:=List.getElem?_eq_getElem hlt
  have hst:=ZfO (fun a:Ac.Act=>a.author==id) L k hlt
  rw[←hacc]at hst;have hlt':(k:Int)<(L.length:Int):=by omega
  have w1:=AT (k:=k) (by omega)
  generalize L[k]=a at *;have hid:((Ay a).act.author==id)=(a.author==id):=rfl;cases h0:(a.author==id)with
  |true=>
   rw[h0]at hst hid;rw[if_pos rfl]at hst;refine Ab (BZ @s1 @s5 @s7 @s6 @hlt' @hg @hsz @hsa @hid @w1) ?_;exact Aj (L.length-(k+1)) (by omega) ⟨Aa,Aa,k+1,acc++[a],_,Aa,by rw[List.map_append];exact Aa,by rw[List.length_append];rfl,hst.symm,by omega,rfl⟩
  |false=>
   rw[h0]at hst hid;rw[if_neg (by decide),List.append_nil]at hst
   refine Ab (A9 @s1 @s5 @s7 @s6 @hlt' @hg @hsz @hid @w1) ?_;exact Aj (L.length-(k+1)) (by omega) ⟨Aa,Aa,k+1,acc,_,Aa,Aa,rfl,hst.symm,by omega,rfl⟩
 ·obtain rfl:k=L.length:=by omega
  rw[List.take_length]at hacc;subst hacc;have hlt':¬(L.length:Int)<(L.length:Int):=by omega
  refine Ab (A5 @s1 @s5 @s7 @s6 @hlt') ?_;exact Au
theorem Zfx(ps:List Int){a:Ac.Act}(h:Ac.right a=true):AC prog 68 [AP ps,Ba a] [] (.bo true) []:=by
 have kr:=VY h;have q2:((Ay a).kind==2)=false:=rfl;have q3:((Ay a).kind==3)=false:=rfl;change AC _ _ [Be (Ay a)] _ _ _ at kr;show AC _ _ [_,Be (Ay a)] _ _ _
 generalize Ay a=i at *;refine Ah [136,137,138,133] [] func68 ?_;refine run ?_;refine cp kr ?_;refine Ab (an @q2 @q3) ?_;exact Ad
theorem Zd6(a:Ac.Act)(l:List Ac.Act)(d:By):CZ (a::l) d=if Jh (dg a) d=true then CZ l d+1 else 0:=rfl
theorem IN{A B:Prop}(h:B)(e:A=B:=by
    conv=>
      lhs
      simp only[Ex,CN,DC,List.map_cons,List.map_nil,List.map_toArray,List.getElem?_toArray,List.getElem?_cons_zero,List.getElem?_cons_succ,Option.bind_some,Option.bind_none,List.append_eq,List.cons_append,List.nil_append,Cf,Ew,Ce,P3,List.isEmpty_nil,List.isEmpty_cons,Bool.and_true,Bool.and_false,Bool.and_self,Bool.false_and,Bool.true_and,List.lookup,Nat.reduceBEq,beq_self_eq_true,List.head?_cons,List.head?_nil,Option.some_beq_some,Option.none_beq_some,Option.isSome_some,Option.isSome_none,Bool.or_true,Bool.true_or,Bool.or_false,Bool.not_true,Bool.not_false,Bool.false_eq_true,if_true,if_false,↓reduceIte,List.size_toArray,List.length_cons,List.length_nil,List.range_succ_eq_map,List.range_zero,Nat.reduceAdd,List.filterMap_cons,List.filterMap_nil]):A:=e▸h
theorem ZeG(ps:List Int)(l:List Ac.Act)(a:Ac.Act)(hl:l.length≤1000)(hr:Bg l)(ha:Ac.right a=true):AC prog 28 [DX ps l,Ba a] [] (.tup [DX ps (DJ l a).1,.bo (DJ l a).2]) []:=by
 have hsz:=EL l;have hz:∀x∈l,Iz (Ay x):=fun x hx=>Dp (act_signed [] (hr x hx)).1
 have iza:=Dp (act_signed [] ha).1;have k1:=GQ a iza;have k2:=Zfx ps ha;have k3:=U8 ps l (dg a) hl hz;cases hh:Ff l (dg a)with
 |true=>
  rw[hh]at k3;have hadd:DJ l a=(l,false):=by unfold DJ;rw[if_pos hh]
  rw[hadd];generalize dg a=d at *;generalize Ay a=it at *;refine AC.enter4 [67,68,64] [] [(8,([0,1],[46,50],[]))] [] func28 rfl (by decide) (by decide) (Nat.le_of_ble_eq_true rfl) (by kernel_rfl) ?_;refine IN ?_
  refine run4 ?_
  refine cp k1 ?_;refine run4 ?_
  refine cp k2 ?_;refine run4 ?_
  refine cp k3 ?_;refine run4 ?_
  exact Ad
 | false=>
  rw[hh]at k3;have hlow:=Qh l (dg a);have hadd:DJ l a=(l.take (CZ l (dg a))++a::l.drop (CZ l (dg a)),true):=by unfold DJ;rw[if_neg (by rw[hh];decide)]
  rw[hadd];have hdg:∀x∈l,AC prog 67 [Ba x] [] (.st (dg x)) []:=fun x hx=>GQ x (hz x hx)
  have hres:(l.take (CZ l (dg a))++a::l.drop (CZ l (dg a))).map Ba=(l.take (CZ l (dg a))).map Ba++[Ba a]++(l.drop (CZ l (dg a))).map Ba:=by
   rw[List.map_append,List.map_cons,List.append_assoc];rfl
  have hszt:AK 49 ((l.take (CZ l (dg a))).map Ba)=true:=EL _;have hszd:AK 49 ((l.drop (CZ l (dg a))).map Ba)=true:=EL _;show AC _ _ _ _ (.tup [.agg [AP ps,.sl .ro ((l.take (CZ l (dg a))++a::l.drop (CZ l (dg a))).map Ba)],.bo true]) _
  rw[hres];have hln:(l.map Ba).length=l.length:=List.length_map _;generalize hd:dg a=d at *;have hloop:∀i:Nat,CZ l d=i+CZ (l.drop i) d→i<l.length→True:=fun _ _ _=>trivial
  clear hloop hadd hres;change AC _ _ [.agg (G7 (Ay a))] _ _ _ at k1;change AC _ _ [_,.agg (G7 (Ay a))] _ _ _ at k2;refine AC.enter4 [67,68,64] [] [(8,([0,1],[46,50],[]))] [] func28 rfl (by decide) (by decide) (Nat.le_of_ble_eq_true rfl) (by kernel_rfl) ?_;refine IN ?_
  refine run4 ?_
  refine cp k1 ?_;refine run4 ?_
  refine cp k2 ?_;refine run4 ?_
  refine cp k3 ?_;refine run4 ?_
  refine AN (fun m e S=>e 2=.ptr 0 0∧e 3=.ptr 1 0∧e 4=.ptr 2 0∧e 6=.st d∧S=[.cells [AP ps,.sl .ro (l.map Ba)],.cells (G7 (Ay a)),.cells [.sl .full [],.sl .full []]] ∧ ∃i:Nat,e 7=.it .i64 (i:Int)∧CZ l d=i+CZ (l.drop i) d∧i≤l.length∧m=l.length-i) l.length ⟨Aa,Aa,Aa,Aa,rfl,0,Aa,by simp,by omega,rfl⟩ ?_
  rintro m e S ⟨s2,s3,s4,s6,rfl,i,s7,he,hi,rfl⟩
  rw[Db s4,Db s3,Db s2];by_cases hlt:i<l.length
  rotate_left
  ·obtain rfl:i=l.length:=by omega
   rw[List.drop_length]at he;have he:CZ l d=l.length:=he;have hlt':¬(l.length:Int)<(l.length:Int):=by omega
   rw[he]at hszt hszd ⊢;refine runf4 (BZ @s2 @s3 @s4 @s6 @s7 @hlt' @hsz @hszt @hszd @hln) ?_
   refine IP ?_;refine run4 ?_
   repeat (first|refine k4 ?_|refine Fc ?_|(refine B6 ?_;refine runf4 (A8 @hsz @hszt @hszd @hln @s7 @s2 @s3 @s4) ?_)|(refine a4 ?_;refine runf4 (A8 @hsz @hszt @hszd @hln @s7 @s2 @s3 @s4) ?_));try refine runf4 (A8 @hsz @hszt @hszd @hln @s7 @s2 @s3 @s4) ?_
   repeat (first|refine k4 ?_|refine Fc ?_|(refine B6 ?_;refine runf4 (A8 @hsz @hszt @hszd @hln @s7 @s2 @s3 @s4) ?_)|(refine a4 ?_;refine runf4 (A8 @hsz @hszt @hszd @hln @s7 @s2 @s3 @s4) ?_));try refine runf4 (A8 @hsz @hszt @hszd @hln @s7 @s2 @s3 @s4) ?_
   refine runf4 (A4 @s2 @s3 @s4 @s7) ?_
   exact Au
  have hg:l[i]? = some l[i]:=List.getElem?_eq_getElem hlt
  have hdr:l.drop i=l[i]::l.drop (i+1):=List.drop_eq_getElem_cons hlt;have hlt':(i:Int)<(l.length:Int):=by omega
  have w1:=AT (k:=i) (by omega)
  have kd:=hdg l[i] (List.getElem_mem hlt);rw[hdr,Zd6]at he;generalize l[i]=x at *;generalize dg x=y at *;cases hle:Jh y d with
  |true=>
   rw[if_pos hle]at he;unfold Jh at hle;refine runf4 (A8 @s2 @s3 @s4 @s6 @s7 @hlt' @hg @hsz) ?_
   refine cp kd ?_;refine runf4 (A7 @s2 @s3 @s4 @s6 @s7 @hle @w1) ?_
   exact Aj (l.length-(i+1)) (by omega) ⟨Aa,Aa,Aa,Aa,rfl,i+1,Aa,by omega,by omega,rfl⟩
  |false=>
   rw[if_neg (by rw[hle];decide),Nat.add_zero]at he
   unfold Jh at hle;rw[he]at hszt hszd ⊢;refine runf4 (A8 @s2 @s3 @s4 @s6 @s7 @hlt' @hg @hsz) ?_
   refine cp kd ?_;refine runf4 (BZ @s2 @s3 @s4 @s6 @s7 @hle @hsz @hszt @hszd @hln) ?_
   refine IP ?_;refine run4 ?_
   repeat (first|refine k4 ?_|refine Fc ?_|(refine B6 ?_;refine runf4 (A8 @hsz @hszt @hszd @hln @s7 @s2 @s3 @s4) ?_)|(refine a4 ?_;refine runf4 (A8 @hsz @hszt @hszd @hln @s7 @s2 @s3 @s4) ?_));try refine runf4 (A8 @hsz @hszt @hszd @hln @s7 @s2 @s3 @s4) ?_
   repeat (first|refine k4 ?_|refine Fc ?_|(refine B6 ?_;refine runf4 (A8 @hsz @hszt @hszd @hln @s7 @s2 @s3 @s4) ?_)|(refine a4 ?_;refine runf4 (A8 @hsz @hszt @hszd @hln @s7 @s2 @s3 @s4) ?_));try refine runf4 (A8 @hsz @hszt @hszd @hln @s7 @s2 @s3 @s4) ?_
   refine runf4 (A4 @s2 @s3 @s4 @s7) ?_
   exact Au
end Pe
end
section
namespace Pe
open Tryz
open Go Go.RowKit Co Sg Ac It Sl Tp
set_option maxRecDepth 100000
set_option maxHeartbeats 4000000
theorem Np{a b:By}(h:a≠b):(a==b)=false:=beq_eq_false_iff_ne.2 h
theorem Nq{a b:By}(h:a=b):(a==b)=true:=beq_iff_eq.2 h
theorem Ot{α:Type}(p:α→Bool)(l:List α)(k:Nat)(h:k<l.length):(l.take (k+1)).filter p=(l.take k).filter p++if p l[k]=true then [l[k]]else []:=by
 rw[List.take_succ_eq_append_getElem h,List.filter_append];congr 1
 simp only[List.filter_cons,List.filter_nil]
theorem Rx{a:Ac.Act}(h:Ac.right a=true):Sz a∧(-9223372036854775808≤a.n∧a.n≤9223372036854775807)∧(-9223372036854775808≤a.m∧a.m≤9223372036854775807):=by
 have hs:=Cp h;exact⟨SJ h,by have :=hs.n;omega,by have :=hs.m;omega⟩
theorem ZhF(l:List Ac.Act)(id:By)(hl:l.length≤1000)(hr:Bg l):AC prog 120 [Bu l,.st id] [] (Bu (Ct l id)) []:=by
 have hsz:=BX l;refine Ah [33,65] [] func120 ?_;refine run ?_;refine Cq (fun m e S=>e 0=Bu l∧e 1=.st id ∧ ∃(k:Nat) (acc:List Ac.Act) (T:Ae),e 6=.it .i64 (k:Int)∧e 5=.sl (.own 0) (acc.map Am)∧S=.buf acc.length 45 20::T∧acc=Ct (l.take k) id∧k≤l.length∧m=l.length-k) l.length _ _ (Ao.reserve 0 5 (es:=[]) (by rfl) 45 20)
  ⟨Aa,Aa,0,[],[],Aa,Aa,rfl,by simp[Ct],by omega,rfl⟩ ?_
 rintro m e S ⟨s0,s1,k,acc,T,s6,s5,rfl,hacc,hk,rfl⟩
 have hT1:∀y:SObj,(T++[y])[T.length]? = some y:=fun y=>by simp
 have hT2:∀y z:SObj,(T++[y]).set T.length z=T++[z]:=fun y z=>by simp
 have hal:acc.length≤k:=by
  rw[hacc];exact Nat.le_trans (List.length_filter_le _ _) (by rw[List.length_take];omega)
 have hsa:=BX acc;by_cases hlt:k<l.length
 ·have hg:l[k]? = some l[k]:=List.getElem?_eq_getElem hlt
  have hst:Ct (l.take (k+1)) id=acc++if C1 id l[k]=true then [l[k]]else []:=by
   unfold Ct at hacc ⊢;rw[Ot _ l k hlt,hacc]
  have hlt':(k:Int)<(l.length:Int):=by omega
  have w1:=AT (k:=k) (by omega)
  have hra:=hr l[k] (List.getElem_mem hlt);generalize l[k]=a at *;obtain⟨hz,hn,hm⟩:=Rx hra;have ko:=Rs a.n hn;have kv:=Oh a.n a hz hn;by_cases h0:a.author=id
  rotate_left
  ·have q0:(a.author==id)=false:=Np h0
   have hb:C1 id a=false:=by simp[C1,h0]
   rw[hb,if_neg (by decide),List.append_nil]at hst
   refine Ab (An @s0 @s1 @s6 @s5 @hlt' @hg @hsz @hT1 @hT2 @w1 @q0) ?_;exact Aj (l.length-(k+1)) (by omega) ⟨Aa,Aa,k+1,acc,_,Aa,Aa,rfl,hst.symm,by omega,rfl⟩
  have q0:(a.author==id)=true:=Nq h0;by_cases h1:a.kind=0
  rotate_left
  ·have q1:(a.kind !=0)=true:=C6 h1
   have hb:C1 id a=false:=by simp[C1,h0,h1]
   rw[hb,if_neg (by decide),List.append_nil]at hst
   refine Ab (an @s0 (An @s1 @s6 @s5 @hlt' @hg @hsz @hT1 @hT2 @w1 @q0 @q1)) ?_;exact Aj (l.length-(k+1)) (by omega) ⟨Aa,Aa,k+1,acc,_,Aa,Aa,rfl,hst.symm,by omega,rfl⟩
  have q1:(a.kind !=0)=false:=Df h1;by_cases h2:a.seq=0
  rotate_left
  ·have q2:(a.seq !=0)=true:=C6 h2
   have hb:C1 id a=false:=by simp[C1,h0,h1,h2]
   rw[hb,if_neg (by decide),List.append_nil]at hst
   refine Ab (an @s0 (an @s1 (An @s6 @s5 @hlt' @hg @hsz @hT1 @hT2 @w1 @q0 @q1 @q2))) ?_;exact Aj (l.length-(k+1)) (by omega) ⟨Aa,Aa,k+1,acc,_,Aa,Aa,rfl,hst.symm,by omega,rfl⟩
  have q2:(a.seq !=0)=false:=Df h2;by_cases h3:a.prev=[]
  rotate_left
  ·have q3:(a.prev==[])=false:=Np h3
   have hb:C1 id a=false:=by simp[C1,h0,h1,h2,h3]
   rw[hb,if_neg (by decide),List.append_nil]at hst
   refine Ab (an @s0 (an @s1 (an @s6 (An @s5 @hlt' @hg @hsz @hT1 @hT2 @w1 @q0 @q1 @q2 @q3)))) ?_;exact Aj (l.length-(k+1)) (by omega) ⟨Aa,Aa,k+1,acc,_,Aa,Aa,rfl,hst.symm,by omega,rfl⟩
  have q3:(a.prev==[])=true:=Nq h3;by_cases h4:CL a.n=id
  rotate_left
  ·have q4:(CL a.n==id)=false:=Np h4
   have hb:C1 id a=false:=by simp[C1,h0,h1,h2,h3,h4]
   rw[hb,if_neg (by decide),List.append_nil]at hst
   refine Ab (an @s0 (an @s1 (an @s6 (An @s5 @hlt' @hg @hsz @hT1 @hT2 @w1 @q0 @q1 @q2 @q3)))) ?_;refine cp ko ?_;refine Ab (an @s0 (an @s1 (an @s6 (an @s5 (An @hlt' @hg @hsz @hT1 @hT2 @w1 @q0 @q1 @q2 @q3 @q4))))) ?_;exact Aj (l.length-(k+1)) (by omega) ⟨Aa,Aa,k+1,acc,_,Aa,Aa,rfl,hst.symm,by omega,rfl⟩
  have q4:(CL a.n==id)=true:=Nq h4;cases hv:BO a.n a with
  |false=>
   rw[hv]at kv;have hb:C1 id a=false:=by simp[C1,h0,h1,h2,h3,h4,hv]
   rw[hb,if_neg (by decide),List.append_nil]at hst
   refine Ab (an @s0 (an @s1 (an @s6 (An @s5 @hlt' @hg @hsz @hT1 @hT2 @w1 @q0 @q1 @q2 @q3)))) ?_;refine cp ko ?_;refine Ab (an @s0 (an @s1 (an @s6 (an @s5 (An @hlt' @hg @hsz @hT1 @hT2 @w1 @q0 @q1 @q2 @q3 @q4))))) ?_;refine cp kv ?_;refine Ab (An @s0 @s1 @s6 @s5 @hlt' @hg @hsz @hT1 @hT2 @w1 @hsa) ?_;exact Aj (l.length-(k+1)) (by omega) ⟨Aa,Aa,k+1,acc,_,Aa,Aa,rfl,hst.symm,by omega,rfl⟩
  |true=>
   rw[hv]at kv;have hb:C1 id a=true:=by simp[C1,h0,h1,h2,h3,h4,hv]
   rw[hb,if_pos rfl]at hst;refine Ab (an @s0 (an @s1 (an @s6 (An @s5 @hlt' @hg @hsz @hT1 @hT2 @w1 @q0 @q1 @q2 @q3)))) ?_;refine cp ko ?_;refine Ab (an @s0 (an @s1 (an @s6 (an @s5 (An @hlt' @hg @hsz @hT1 @hT2 @w1 @q0 @q1 @q2 @q3 @q4))))) ?_;refine cp kv ?_;refine Ab (An @s0 @s1 @s6 @s5 @hlt' @hg @hsz @hT1 @hT2 @w1 @hsa) ?_;exact Aj (l.length-(k+1)) (by omega) ⟨Aa,Aa,k+1,acc++[a],_,Aa,by rw[List.map_append];exact Aa,by rw[List.length_append];rfl,hst.symm,by omega,rfl⟩
 ·obtain rfl:k=l.length:=by omega
  rw[List.take_length]at hacc;subst hacc;have hlt':¬(l.length:Int)<(l.length:Int):=by omega
  refine Ab (A5 @s0 @s1 @s6 @s5 @hlt') ?_;exact Au
theorem N8{c:Chn}(h:c.keys≠[]):c.keys[c.keys.length-1]? = some (BM c):=by
 have h0:0<c.keys.length:=List.length_pos_iff.2 h;unfold BM;rw[List.getD_eq_getElem?_getD,List.getElem?_eq_getElem (by omega)]
 rfl
theorem ZhD(l:List Ac.Act)(c:Chn)(N:Nat)(hl:l.length≤1000)(hr:Bg l)(hc:COk c N)(hN:N≤500)(hk:c.keys≠[]):AC prog 123 [Bu l,AG c] [] (Bu (BJ l c)) []:=by
 have hsz:=BX l;have hszk:=GK c.keys;have hlk:=N8 hk;have hkl:0<c.keys.length:=List.length_pos_iff.2 hk;have hcl:=hc.len;have hck:=hc.klen;have w0:IntKind.i64.wrap ((c.keys.length:Int)-1)=((c.keys.length-1:Nat):Int):=by rw[wrap64 (by omega) (by omega)];omega
 have hlast:=hc.last;have hkb:((c.keys.length-1:Nat):Int)<(c.keys.length:Int):=by omega
 have kf:=fun a (hz:Sz a)=>Q9 c a (by omega) hc.acts hz
 generalize hLK:BM c=lk at *;refine Ah [66,65] [] func123 ?_;refine run ?_;refine Cq (fun m e S=>e 0=Bu l∧e 3=.ptr 0 0 ∧ ∃(k:Nat) (acc:List Ac.Act) (T:Ae),e 6=.it .i64 (k:Int)∧e 5=.sl (.own 1) (acc.map Am)∧S=.cells [.st c.id,Bu c.acts,.sl .ro (c.keys.map Bt),.st c.prev,.it .i64 c.gen,.bo c.fork]::.buf acc.length 45 20::T∧acc=BJ (l.take k) c∧k≤l.length∧m=l.length-k) l.length _ _ (Ao.reserve 0 5 (es:=[]) (by rfl) 45 20)
  ⟨Aa,Aa,0,[],[],Aa,Aa,rfl,by simp[BJ],by omega,rfl⟩ ?_
 rintro m e S ⟨s0,s3,k,acc,T,s6,s5,rfl,hacc,hk,rfl⟩
 have hal:acc.length≤k:=by
  rw[hacc];exact Nat.le_trans (List.length_filter_le _ _) (by rw[List.length_take];omega)
 have hsa:=BX acc;by_cases hlt:k<l.length
 ·have hg:l[k]? = some l[k]:=List.getElem?_eq_getElem hlt
  have hst:BJ (l.take (k+1)) c=acc++if(Bh c l[k]&&BO lk.pub l[k])=true then [l[k]]else []:=by
   unfold BJ at hacc ⊢;rw[Ot _ l k hlt,hacc,hLK]
  have hlt':(k:Int)<(l.length:Int):=by omega
  have w1:=AT (k:=k) (by omega)
  have hra:=hr l[k] (List.getElem_mem hlt);generalize l[k]=a at *;obtain⟨hz,hn,hm⟩:=Rx hra;have kf:=kf a hz;have kv:=Oh lk.pub a hz (by omega)
  cases hf:Bh c a with
  |false=>
   rw[hf]at kf hst;rw[Bool.false_and,if_neg (by decide),List.append_nil]at hst
   refine Ab (A8 @s0 @s3 @s6 @s5 @hlt' @hg @hsz @w1) ?_;refine cp kf ?_;refine Ab (A5 @s0 @s3 @s6 @s5 @w1) ?_;exact Aj (l.length-(k+1)) (by omega) ⟨Aa,Aa,k+1,acc,_,Aa,Aa,rfl,hst.symm,by omega,rfl⟩
  | true=>
   rw[hf]at kf hst;rw[Bool.true_and]at hst;cases hv:BO lk.pub a with
   |false=>
    rw[hv]at kv hst;rw[if_neg (by decide),List.append_nil]at hst
    refine Ab (A8 @s0 @s3 @s6 @s5 @hlt' @hg @hsz @w1) ?_;refine cp kf ?_;refine Ab (An @s0 @s3 @s6 @s5 @hg @hsz @hszk @hlk @w0 @w1 @hkb) ?_;refine cp kv ?_;refine Ab (A5 @s0 @s3 @s6 @s5 @w1) ?_;exact Aj (l.length-(k+1)) (by omega) ⟨Aa,Aa,k+1,acc,_,Aa,Aa,rfl,hst.symm,by omega,rfl⟩
   |true=>
    rw[hv]at kv hst;rw[if_pos rfl]at hst;refine Ab (A8 @s0 @s3 @s6 @s5 @hlt' @hg @hsz @w1) ?_;refine cp kf ?_;refine Ab (An @s0 @s3 @s6 @s5 @hg @hsz @hszk @hlk @w0 @w1 @hkb) ?_;refine cp kv ?_;refine Ab (A8 @s0 @s3 @s6 @s5 @hg @hsz @hsa @w1) ?_;exact Aj (l.length-(k+1)) (by omega) ⟨Aa,Aa,k+1,acc++[a],_,Aa,by rw[List.map_append];exact Aa,by rw[List.length_append];rfl,hst.symm,by omega,rfl⟩
 ·obtain rfl:k=l.length:=by omega
  rw[List.take_length]at hacc;subst hacc;have hlt':¬(l.length:Int)<(l.length:Int):=by omega
  refine Ab (A5 @s0 @s3 @s6 @s5 @hlt') ?_;exact Au
abbrev JP:List AV:=[.st [],.it .i64 0,.st [],.it .i64 0,.it .i64 0,.st [],.st [],.it .i64 0,.st [],.sl .full [],.st [],.st [],.st [],.st [],.it .i64 0,.sl .full [],.it .i64 0,.it .i64 0,.it .i64 0,.it .i64 0]
def IV(acts:List Ac.Act):Ac.Act×Bool:=
 match acts.reverse.find? (fun a=>a.kind==19)with
 |some a=>(a,true)
 |none=>(Al,false)
theorem ZgU(c:Chn)(hl:c.acts.length≤1000):AC prog 196 [AG c] [] (.tup [Am (IV c.acts).1,.bo (IV c.acts).2]) []:=by
 obtain⟨id,acts,keys,prev,gen,fork⟩:=c;simp only at hl
 have hsz:=BX acts;have w0:IntKind.i64.wrap ((acts.length:Int)-1)=(acts.length:Int)-1:=wrap64 (by omega) (by omega)
 refine Ah [] [] func196 ?_;refine Ab @w0 ?_;refine AN (fun m e S=>e 1=.ptr 0 0∧e 2=.ptr 1 0∧S=[.cells [.st id,Bu acts,.sl .ro (keys.map Bt),.st prev,.it .i64 gen,.bo fork],.cells JP] ∧ ∃j:Nat,e 4=.it .i64 ((j:Int)-1)∧j≤acts.length∧acts.reverse.find? (fun a=>a.kind==19)=(acts.take j).reverse.find? (fun a=>a.kind==19)∧m=j) acts.length ⟨Aa,Aa,rfl,acts.length,Aa,Nat.le_refl _,by rw[List.take_length],rfl⟩ ?_
 rintro m e S ⟨s1,s2,rfl,j,s4,hj,hf,rfl⟩
 rw[Db s2];cases m with
 |zero=>
  have hn:¬(((0:Nat):Int)-1)≥0:=by omega
  have hv:IV acts=(Al,false):=by unfold IV;rw[hf];rfl
  rw[hv];refine Ab (A4 @s1 @s2 @s4 @hn) ?_;exact Au
 | succ j=>
  have hjl:j<acts.length:=by omega
  have hg:acts[j]? = some acts[j]:=List.getElem?_eq_getElem hjl
  have ej:(((j+1:Nat):Int)-1)=(j:Int):=by omega
  have hp:(j:Int)≥0:=by omega
  rw[ej]at s4;have htk:(acts.take (j+1)).reverse=acts[j]::(acts.take j).reverse:=by rw[List.take_succ_eq_append_getElem hjl,List.reverse_append];rfl
  rw[htk,List.find?_cons]at hf
  have w1:IntKind.i64.wrap ((j:Int)-1)=(j:Int)-1:=wrap64 (by omega) (by omega)
  generalize acts[j]=k at *;cases hle:(k.kind==19)with
  |true=>
   rw[hle]at hf;have hv:IV acts=(k,true):=by unfold IV;rw[hf]
   rw[hv];refine Ab (A7 @s1 @s2 @s4 @hp @hg @hsz @hle) ?_;exact Au
  |false=>
   rw[hle]at hf;refine Ab (A8 @s1 @s2 @s4 @hp @hg @hsz @hle @w1) ?_;exact Aj j (by omega) ⟨Aa,Aa,rfl,j,Aa,by omega,hf,rfl⟩
theorem ZgR(ps:List Int)(l:List Ac.Act)(id:By)(gen:Int)(hl:l.length≤1000):AC prog 195 [DX ps l,.st id,.it .i64 gen] [] (.tup [Mu Ei,.bo false]) []:=by
 have hsz:=EL l;refine Ah [67,280,281] [] func195 ?_;refine run ?_;refine AN (fun m e S=>e 3=.ptr 0 0∧e 6=.ptr 1 0∧e 8=.ptr 2 0∧e 9=.st [] ∧ ∃(i:Nat) (T:Ae),e 10=.it .i64 (i:Int)∧S=.cells [AP ps,.sl .ro (l.map Ba)]::.cells [.st [],.it .i64 0,.st [],.it .i64 0,.it .i64 0,.it .i64 0,.it .i64 0,.it .i64 0,.it .i64 0]::.cells [.st [],.it .i64 0,.st [],.it .i64 0,.it .i64 0,.it .i64 0,.it .i64 0,.it .i64 0,.it .i64 0]::T∧i≤l.length∧m=l.length-i) l.length ⟨Aa,Aa,Aa,Aa,0,[],Aa,rfl,by omega,rfl⟩ ?_
 rintro m e S ⟨s3,s6,s8,s9,i,T,s10,rfl,hi,rfl⟩
 rw[Db s6];have hT1:∀y:SObj,(T++[y])[T.length]? = some y:=fun y=>by simp
 have hT2:∀y z:SObj,(T++[y]).set T.length z=T++[z]:=fun y z=>by simp
 by_cases hlt:i<l.length
 ·have hg:l[i]? = some l[i]:=List.getElem?_eq_getElem hlt
  have hlt':(i:Int)<(l.length:Int):=by omega
  have w1:=AT (k:=i) (by omega)
  generalize l[i]=a at *;have kq:((Ay a).kind !=1)=true:=rfl;refine Ab (an @s3 (An @s6 @s8 @s9 @s10 @hlt' @hg @hsz @hT1 @hT2 @w1 @kq)) ?_;exact Aj (l.length-(i+1)) (by omega) ⟨Aa,Aa,Aa,Aa,i+1,_,Aa,rfl,by omega,rfl⟩
 ·obtain rfl:i=l.length:=by omega
  have hlt':¬(l.length:Int)<(l.length:Int):=by omega
  refine Ab (A6 @s3 @s6 @s8 @s9 @s10 @hlt') ?_;exact Ad
theorem ZhC(ps:List Int)(l:List Ac.Act)(c:Chn)(hl:l.length≤1000)(hcl:c.acts.length≤1000):AC prog 122 [DX ps l,AG c] [] (.tup [AG c,.bo false]) []:=by
 have k1:=ZgR ps l c.id c.gen hl;have k2:=ZgU c hcl;obtain⟨id,acts,keys,prev,gen,fork⟩:=c;simp only at k1 k2 hcl
 generalize IV acts=r at *;obtain⟨ra,rb⟩:=r;refine AC.enter4 [195,196,197,198,67] [] [(8,([],[1000000],[]))] [] func122 rfl (by decide) (by decide) (Nat.le_of_ble_eq_true rfl) (by kernel_rfl) ?_;refine IN ?_
 refine run4 ?_
 refine cp k1 ?_;refine run4 ?_
 refine cp k2 ?_;refine run4 ?_
 exact Ad
theorem XO(c:Chn)(a:Ac.Act)(hl:c.acts.length≤1000)(hkl:c.keys.length≤1000)(ha:Ac.right a=true):AC prog 121 [AG c,Am a] [] (AG (Bz c a)) []:=by
 have k1:=TO ha;obtain⟨id,acts,keys,prev,gen,fork⟩:=c;simp only at hl hkl
 have hsz:=BX acts;have hszk:=GK keys;have e1:(acts++[a]).map Am=acts.map Am++[Am a]:=by rw[List.map_append];rfl
 by_cases h0:a.kind=0
 ·have hc:Bz ⟨id,acts,keys,prev,gen,fork⟩ a=⟨id,acts++[a],keys++[⟨0,a.n,a.m⟩],dg a,gen,fork⟩:=by simp[Bz,h0]
  have e2:(keys++[(⟨0,a.n,a.m⟩:Tp.KeyAt)]).map Bt=keys.map Bt++[Bt ⟨0,a.n,a.m⟩]:=by rw[List.map_append];rfl
  have q0:(a.kind==0)=true:=beq_iff_eq.2 h0;have q18:(a.kind==18)=false:=beq_eq_false_iff_ne.2 (by omega)
  rw[hc];show AC _ _ _ _ (.agg [.st id,.sl .ro ((acts++[a]).map Am),.sl .ro ((keys++[(⟨0,a.n,a.m⟩:Tp.KeyAt)]).map Bt),.st (dg a),.it .i64 gen,.bo fork]) _
  rw[e1,e2];generalize dg a=d at *;refine AC.enter4 [194] [] [(1,([1],[10],[])),(7,([1],[37,39],[]))] [] func121 rfl (by decide) (by decide) (Nat.le_of_ble_eq_true rfl) (by kernel_rfl) ?_;refine IN ?_
  refine runf4 @hsz ?_
  refine IP ?_;refine run4 ?_
  repeat (first|refine k4 ?_|refine Fc ?_|(refine B6 ?_;refine runf4 @hsz ?_)|(refine a4 ?_;refine runf4 @hsz ?_));try refine runf4 @hsz ?_
  repeat (first|refine k4 ?_|refine Fc ?_|(refine B6 ?_;refine runf4 @hsz ?_)|(refine a4 ?_;refine runf4 @hsz ?_));try refine runf4 @hsz ?_
  refine run4 ?_
  refine cp k1 ?_;refine runf4 (an @q18 @q0) ?_
  refine runf4 (an @q18 @q0) ?_
  refine IP ?_;refine run4 ?_
  repeat (first|refine k4 ?_|refine Fc ?_|(refine B6 ?_;refine runf4 @hszk ?_)|(refine a4 ?_;refine runf4 @hszk ?_));try refine runf4 @hszk ?_
  repeat (first|refine k4 ?_|refine Fc ?_|(refine B6 ?_;refine runf4 @hszk ?_)|(refine a4 ?_;refine runf4 @hszk ?_));try refine runf4 @hszk ?_
  refine run4 ?_
  exact Au
 have q0:(a.kind==0)=false:=beq_eq_false_iff_ne.2 h0;by_cases h18:a.kind=18
 ·have hc:Bz ⟨id,acts,keys,prev,gen,fork⟩ a=⟨id,acts++[a],keys++[⟨((acts.length+1:Nat):Int),a.n,a.m⟩],dg a,gen,fork⟩:=by simp[Bz,h18]
  have e2:(keys++[(⟨((acts.length+1:Nat):Int),a.n,a.m⟩:Tp.KeyAt)]).map Bt=keys.map Bt++[Bt ⟨((acts.length+1:Nat):Int),a.n,a.m⟩]:=by rw[List.map_append];rfl
  have q18:(a.kind==18)=true:=beq_iff_eq.2 h18;have hll:(acts.map Am++[Am a]).length=acts.length+1:=by simp
  rw[hc];show AC _ _ _ _ (.agg [.st id,.sl .ro ((acts++[a]).map Am),.sl .ro ((keys++[(⟨((acts.length+1:Nat):Int),a.n,a.m⟩:Tp.KeyAt)]).map Bt),.st (dg a),.it .i64 gen,.bo fork]) _
  rw[e1,e2];generalize dg a=d at *;refine AC.enter4 [194] [] [(1,([1],[10],[])),(7,([1],[37,39],[]))] [] func121 rfl (by decide) (by decide) (Nat.le_of_ble_eq_true rfl) (by kernel_rfl) ?_;refine IN ?_
  refine runf4 @hsz ?_
  refine IP ?_;refine run4 ?_
  repeat (first|refine k4 ?_|refine Fc ?_|(refine B6 ?_;refine runf4 @hsz ?_)|(refine a4 ?_;refine runf4 @hsz ?_));try refine runf4 @hsz ?_
  repeat (first|refine k4 ?_|refine Fc ?_|(refine B6 ?_;refine runf4 @hsz ?_)|(refine a4 ?_;refine runf4 @hsz ?_));try refine runf4 @hsz ?_
  refine run4 ?_
  refine cp k1 ?_;refine runf4 (an @q18 @q0) ?_
  refine runf4 (an @q18 @q0) ?_
  refine IP ?_;refine run4 ?_
  repeat (first|refine k4 ?_|refine Fc ?_|(refine B6 ?_;refine runf4 @hszk ?_)|(refine a4 ?_;refine runf4 @hszk ?_));try refine runf4 @hszk ?_
  repeat (first|refine k4 ?_|refine Fc ?_|(refine B6 ?_;refine runf4 @hszk ?_)|(refine a4 ?_;refine runf4 @hszk ?_));try refine runf4 @hszk ?_
  refine run4 ?_
  exact Au
 ·have hc:Bz ⟨id,acts,keys,prev,gen,fork⟩ a=⟨id,acts++[a],keys,dg a,gen,fork⟩:=by simp[Bz,h0,h18]
  have q18:(a.kind==18)=false:=beq_eq_false_iff_ne.2 h18;rw[hc];show AC _ _ _ _ (.agg [.st id,.sl .ro ((acts++[a]).map Am),.sl .ro (keys.map Bt),.st (dg a),.it .i64 gen,.bo fork]) _
  rw[e1];generalize dg a=d at *;refine AC.enter4 [194] [] [(1,([1],[10],[])),(7,([1],[37,39],[]))] [] func121 rfl (by decide) (by decide) (Nat.le_of_ble_eq_true rfl) (by kernel_rfl) ?_;refine IN ?_
  refine runf4 @hsz ?_
  refine IP ?_;refine run4 ?_
  repeat (first|refine k4 ?_|refine Fc ?_|(refine B6 ?_;refine runf4 @hsz ?_)|(refine a4 ?_;refine runf4 @hsz ?_));try refine runf4 @hsz ?_
  repeat (first|refine k4 ?_|refine Fc ?_|(refine B6 ?_;refine runf4 @hsz ?_)|(refine a4 ?_;refine runf4 @hsz ?_));try refine runf4 @hsz ?_
  refine run4 ?_
  refine cp k1 ?_;refine runf4 (an @q18 @q0) ?_
  refine runf4 (an @q18 @q0) ?_
  exact Au
end Pe
end
section
namespace Pe
open Tryz
open Go Go.RowKit Co Sg Ac It Sl Tp
set_option maxRecDepth 100000
set_option maxHeartbeats 4000000
abbrev Nc(t:Ties):AV:=.agg [Av t.follows,Av t.accepts,Av t.blocks,Av t.mutes]
structure TOk(t:Ties)(n:Nat):Prop where
 f:t.follows.length≤n
 a:t.accepts.length≤n
 b:t.blocks.length≤n
 m:t.mutes.length≤n
theorem Zan(l:List By)(d:By):(CU l d).length≤l.length+1:=by
 unfold CU;split
 ·omega
 ·rw[←N4,←N5,List.length_append,List.length_cons,List.length_take,List.length_drop]
  have :=Qg l d;omega
theorem Zak(l:List By)(d:By):(B3 l d).length≤l.length:=List.length_filter_le _ _
theorem Zia{t:Ties}{n:Nat}(h:TOk t n)(acts:List Ac.Act)(i:Nat)(l:List By):TOk (EA t acts i l) (n+1):=by
 obtain⟨h1,h2,h3,h4⟩:=h;have w:=fun l d=>Zan l d
 have wo:=fun l d=>Zak l d
 have self:TOk t (n+1):=⟨by omega,by omega,by omega,by omega⟩
 have lw:∀(l:List By) d,l.length≤n→(CU l d).length≤n+1:=fun l d hl=>by have :=w l d;omega
 have lo:∀(l:List By) d,l.length≤n→(B3 l d).length≤n+1:=fun l d hl=>by have :=wo l d;omega
 unfold EA;simp only
 split
 ·exact⟨lw _ _ h1,self.a,self.b,self.m⟩
 split
 ·exact⟨self.f,lw _ _ h2,self.b,self.m⟩
 split
 ·exact⟨self.f,lo _ _ h2,self.b,self.m⟩
 split
 ·exact⟨lo _ _ h1,lo _ _ h2,lw _ _ h3,self.m⟩
 split
 ·exact⟨self.f,self.a,self.b,lw _ _ h4⟩
 split
 ·split
  ·exact self
  ·split
   ·exact self
   ·split
    ·exact⟨lo _ _ h1,self.a,self.b,self.m⟩
    split
    ·exact⟨self.f,lo _ _ h2,self.b,self.m⟩
    split
    ·exact⟨self.f,self.a,lo _ _ h3,self.m⟩
    split
    ·exact⟨self.f,self.a,self.b,lo _ _ h4⟩
    ·exact self
 ·exact self
theorem Zid(t:Ties)(c:Chn)(i:Nat)(l:List By)(hi:i<c.acts.length)(hcl:c.acts.length≤1000)(ht:TOk t 1000)(hl:l.length≤1000):AC prog 289 [Nc t,AG c,.it .i64 (i:Int),Av l] [] (Nc (EA t c.acts i l)) []:=by
 obtain⟨h1,h2,h3,h4⟩:=ht;obtain⟨tf,ta,tb,tm⟩:=t;obtain⟨id,acts,keys,prev,gen,fork⟩:=c;simp only at hi hcl h1 h2 h3 h4 ⊢
 have hsz:=BX acts;have hg:acts[i]? = some acts[i]:=List.getElem?_eq_getElem hi
 have hgd:acts.getD i Al=acts[i]:=by rw[List.getD_eq_getElem?_getD,hg];rfl
 have hi':(i:Int)<(acts.length:Int):=by omega
 have hb:∀j,j<i→acts[j]? = some (acts.getD j Al):=fun j hj=>by rw[List.getD_eq_getElem?_getD,List.getElem?_eq_getElem (by omega)];rfl
 have kw:=fun(m:List By) d (h:m.length≤1000)=>Zao m d (by omega)
 have ko:=fun(m:List By) d (h:m.length≤1000)=>Zal m d (by omega)
 obtain⟨r,hr⟩:∃r,EA ⟨tf,ta,tb,tm⟩ acts i l=r:=⟨_,rfl⟩
 rw[hr];unfold EA at hr;simp only at hr
 rw[hgd]at hr;generalize acts[i]=a at *;by_cases c7:a.kind=7
 ·obtain rfl:r=⟨CU tf a.target,ta,tb,tm⟩:=by rw[←hr];simp[c7]
  have q7:(a.kind==7)=true:=by rw[c7];rfl
  refine Ah [320,321,322] [] func289 ?_;refine Ab (A4 @hg @hsz @hi' @q7) ?_;refine cp (kw tf a.target h1) ?_;refine run ?_;exact Ad
 by_cases c8:a.kind=8
 ·obtain rfl:r=⟨tf,CU ta a.target,tb,tm⟩:=by rw[←hr];simp[c8]
  have q7:(a.kind==7)=false:=by rw[c8];rfl
  have q8:(a.kind==8)=true:=by rw[c8];rfl
  refine Ah [320,321,322] [] func289 ?_;refine Ab (A5 @hg @hsz @hi' @q7 @q8) ?_;refine cp (kw ta a.target h2) ?_;refine run ?_;exact Ad
 by_cases c9:a.kind=9
 ·obtain rfl:r=⟨tf,B3 ta a.target,tb,tm⟩:=by rw[←hr];simp[c9]
  have q7:(a.kind==7)=false:=by rw[c9];rfl
  have q8:(a.kind==8)=false:=by rw[c9];rfl
  have q9:(a.kind==9)=true:=by rw[c9];rfl
  refine Ah [320,321,322] [] func289 ?_;refine Ab (A6 @hg @hsz @hi' @q7 @q8 @q9) ?_;refine cp (ko ta a.target h2) ?_;refine run ?_;exact Ad
 by_cases c10:a.kind=10
 ·obtain rfl:r=⟨B3 tf a.target,B3 ta a.target,CU tb a.target,tm⟩:=by rw[←hr];simp[c10]
  have q7:(a.kind==7)=false:=by rw[c10];rfl
  have q8:(a.kind==8)=false:=by rw[c10];rfl
  have q9:(a.kind==9)=false:=by rw[c10];rfl
  have q10:(a.kind==10)=true:=by rw[c10];rfl
  refine Ah [320,321,322] [] func289 ?_;refine Ab (A7 @hg @hsz @hi' @q7 @q8 @q9 @q10) ?_;refine cp (kw tb a.target h3) ?_;refine run ?_;refine cp (ko tf a.target h1) ?_;refine run ?_;refine cp (ko ta a.target h2) ?_;refine run ?_;exact Ad
 by_cases c11:a.kind=11
 ·obtain rfl:r=⟨tf,ta,tb,CU tm a.target⟩:=by rw[←hr];simp[c11]
  have q7:(a.kind==7)=false:=by rw[c11];rfl
  have q8:(a.kind==8)=false:=by rw[c11];rfl
  have q9:(a.kind==9)=false:=by rw[c11];rfl
  have q10:(a.kind==10)=false:=by rw[c11];rfl
  have q11:(a.kind==11)=true:=by rw[c11];rfl
  refine Ah [320,321,322] [] func289 ?_;refine Ab (A8 @hg @hsz @hi' @q7 @q8 @q9 @q10 @q11) ?_;refine cp (kw tm a.target h4) ?_;refine run ?_;exact Ad
 by_cases c6:a.kind=6
 rotate_left
 ·obtain rfl:r=⟨tf,ta,tb,tm⟩:=by rw[←hr];simp[c7,c8,c9,c10,c11,c6]
  have q7:(a.kind==7)=false:=beq_eq_false_iff_ne.2 c7;have q8:(a.kind==8)=false:=beq_eq_false_iff_ne.2 c8;have q9:(a.kind==9)=false:=beq_eq_false_iff_ne.2 c9;have q10:(a.kind==10)=false:=beq_eq_false_iff_ne.2 c10;have q11:(a.kind==11)=false:=beq_eq_false_iff_ne.2 c11;have q6:(a.kind==6)=false:=beq_eq_false_iff_ne.2 c6;refine Ah [320,321,322] [] func289 ?_;refine Ab (A9 @hg @hsz @hi' @q7 @q8 @q9 @q10 @q11 @q6) ?_;exact Ad
 have q7:(a.kind==7)=false:=by rw[c6];rfl
 have q8:(a.kind==8)=false:=by rw[c6];rfl
 have q9:(a.kind==9)=false:=by rw[c6];rfl
 have q10:(a.kind==10)=false:=by rw[c6];rfl
 have q11:(a.kind==11)=false:=by rw[c6];rfl
 have q6:(a.kind==6)=true:=by rw[c6];rfl
 have kx:=ZeY l a.object (by omega)
 cases hx:Cy l a.object with
 |none=>
  rw[hx]at kx;obtain rfl:r=⟨tf,ta,tb,tm⟩:=by rw[←hr];simp[c6,hx]
  change AC _ _ _ _ (.it .i64 (-1)) _ at kx;have hn1:(-1:Int)<0:=by decide
  refine Ah [320,321,322] [] func289 ?_;refine Ab (A9 @hg @hsz @hi' @q7 @q8 @q9 @q10 @q11 @q6) ?_;refine cp kx ?_;refine Ab @hn1 ?_;exact Ad
 | some j=>
  rw[hx]at kx;change AC _ _ _ _ (.it .i64 (j:Int)) _ at kx;have hn1:¬(j:Int)<0:=by omega
  by_cases hji:i≤j
  ·obtain rfl:r=⟨tf,ta,tb,tm⟩:=by rw[←hr];simp[c6,hx,hji]
   have hge:(j:Int)≥(i:Int):=by omega
   refine Ah [320,321,322] [] func289 ?_;refine Ab (A9 @hg @hsz @hi' @q7 @q8 @q9 @q10 @q11 @q6) ?_;refine cp kx ?_;refine Ab (an @hn1 @hge) ?_;exact Ad
  have hge:¬(j:Int)≥(i:Int):=by omega
  have hgj:=hb j (by omega)
  have hj':(j:Int)<(acts.length:Int):=by omega
  generalize hB:acts.getD j Al=b at *;have hB2:acts[j]?.getD Al=b:=by rw[←List.getD_eq_getElem?_getD];exact hB
  have hr:(if b.kind=7 then(⟨B3 tf b.target,ta,tb,tm⟩:Ties)else if b.kind=8 then⟨tf,B3 ta b.target,tb,tm⟩else if b.kind=10 then⟨tf,ta,B3 tb b.target,tm⟩else if b.kind=11 then⟨tf,ta,tb,B3 tm b.target⟩else⟨tf,ta,tb,tm⟩)=r:=by rw[←hr];simp[c6,hx,hji,hB2]
  by_cases d7:b.kind=7
  ·obtain rfl:r=⟨B3 tf b.target,ta,tb,tm⟩:=by rw[←hr];simp[d7]
   have p7:(b.kind==7)=true:=by rw[d7];rfl
   have p8:(b.kind==8)=false:=by rw[d7];rfl
   have p10:(b.kind==10)=false:=by rw[d7];rfl
   have p11:(b.kind==11)=false:=by rw[d7];rfl
   refine Ah [320,321,322] [] func289 ?_;refine Ab (A9 @hg @hsz @hi' @q7 @q8 @q9 @q10 @q11 @q6) ?_;refine cp kx ?_;refine Ab (A9 @hn1 @hge @hgj @hsz @hj' @p7 @p8 @p10 @p11) ?_;refine cp (ko tf b.target h1) ?_;refine Ab (A4 @p7 @p8 @p10 @p11) ?_;exact Ad
  by_cases d8:b.kind=8
  ·obtain rfl:r=⟨tf,B3 ta b.target,tb,tm⟩:=by rw[←hr];simp[d8]
   have p7:(b.kind==7)=false:=by rw[d8];rfl
   have p8:(b.kind==8)=true:=by rw[d8];rfl
   have p10:(b.kind==10)=false:=by rw[d8];rfl
   have p11:(b.kind==11)=false:=by rw[d8];rfl
   refine Ah [320,321,322] [] func289 ?_;refine Ab (A9 @hg @hsz @hi' @q7 @q8 @q9 @q10 @q11 @q6) ?_;refine cp kx ?_;refine Ab (A9 @hn1 @hge @hgj @hsz @hj' @p7 @p8 @p10 @p11) ?_;refine cp (ko ta b.target h2) ?_;refine Ab (A4 @p7 @p8 @p10 @p11) ?_;exact Ad
  by_cases d10:b.kind=10
  ·obtain rfl:r=⟨tf,ta,B3 tb b.target,tm⟩:=by rw[←hr];simp[d10]
   have p7:(b.kind==7)=false:=by rw[d10];rfl
   have p8:(b.kind==8)=false:=by rw[d10];rfl
   have p10:(b.kind==10)=true:=by rw[d10];rfl
   have p11:(b.kind==11)=false:=by rw[d10];rfl
   refine Ah [320,321,322] [] func289 ?_;refine Ab (A9 @hg @hsz @hi' @q7 @q8 @q9 @q10 @q11 @q6) ?_;refine cp kx ?_;refine Ab (A9 @hn1 @hge @hgj @hsz @hj' @p7 @p8 @p10 @p11) ?_;refine cp (ko tb b.target h3) ?_;refine Ab (A4 @p7 @p8 @p10 @p11) ?_;exact Ad
  by_cases d11:b.kind=11
  ·obtain rfl:r=⟨tf,ta,tb,B3 tm b.target⟩:=by rw[←hr];simp[d11]
   have p7:(b.kind==7)=false:=by rw[d11];rfl
   have p8:(b.kind==8)=false:=by rw[d11];rfl
   have p10:(b.kind==10)=false:=by rw[d11];rfl
   have p11:(b.kind==11)=true:=by rw[d11];rfl
   refine Ah [320,321,322] [] func289 ?_;refine Ab (A9 @hg @hsz @hi' @q7 @q8 @q9 @q10 @q11 @q6) ?_;refine cp kx ?_;refine Ab (A9 @hn1 @hge @hgj @hsz @hj' @p7 @p8 @p10 @p11) ?_;refine cp (ko tm b.target h4) ?_;refine Ab (A4 @p7 @p8 @p10 @p11) ?_;exact Ad
  obtain rfl:r=⟨tf,ta,tb,tm⟩:=by rw[←hr];simp[d7,d8,d10,d11]
  have p7:(b.kind==7)=false:=beq_eq_false_iff_ne.2 d7;have p8:(b.kind==8)=false:=beq_eq_false_iff_ne.2 d8;have p10:(b.kind==10)=false:=beq_eq_false_iff_ne.2 d10;have p11:(b.kind==11)=false:=beq_eq_false_iff_ne.2 d11;refine Ah [320,321,322] [] func289 ?_;refine Ab (A9 @hg @hsz @hi' @q7 @q8 @q9 @q10 @q11 @q6) ?_;refine cp kx ?_;refine Ab (A9 @hn1 @hge @hgj @hsz @hj' @p7 @p8 @p10 @p11) ?_;exact Ad
end Pe
end
section
namespace Pe
open Tryz
open Go Go.RowKit Go.Maps Go.Sort
open Go.WideElems (Fit)
set_option maxRecDepth 100000
set_option maxHeartbeats 4000000
section
variable [Tab] {w w':World} {g:Gh} {S:Ae} {gb n:Nat}
theorem Le.belowS(g:Gh)(n:Nat)(h:Below w.heap.size w w')(hgb:w.heap.size≤gb):Le w g w' (g.stab gb n):=by
 refine⟨(Le.below g h).cell,fun b o v hb hv=>?_,Nat.le_refl _,fun _ _=>⟨rfl,.inl ⟨rfl,rfl,rfl⟩⟩,fun b me c hg hm=>?_⟩
 ·have hlt:b<w.heap.size:=World.block_lt_of_cell? w _ hv
  simp only[Gh.stab];rw[if_neg (show b≠gb by omega)]
  exact hb
 ·have hlt:=(Array.getElem?_eq_some_iff.1 hm).1
  refine⟨?_,(h.block b hlt).trans hm⟩
  simp only[Gh.stab];rw[if_neg (show b≠gb by omega)]
  exact hg
theorem WF.belowS(n:Nat)(hw:WF w g S)(h:Below w.heap.size w w')(hgb:w.heap.size≤gb):WF w' (g.stab gb n) S:=by
 have hle:=Le.belowS g n h hgb;refine⟨hw.nid,fun l o hl=>?_,hw.disj,fun l b hl hb=>?_,hw.tab.le hle⟩
 ·have hlt:l<g.nid:=by rw[hw.nid];exact(List.getElem?_eq_some_iff.1 hl).1
  exact(hw.obj l o hl).keep hle rfl rfl rfl rfl rfl (fun b hb=>if_neg (by have :=hw.lt l b hlt hb;omega)) (fun b hb=>h.block b (hw.lt l b hlt hb))
 ·have :=hw.lt l b hl hb
  have :=h.size;omega
theorem Evo.belowS(g:Gh)(n:Nat)(h:Below w.heap.size w w')(hgb:w.heap.size≤gb):Evo w g w' (g.stab gb n):=
 ⟨Le.belowS g n h hgb,h.os,h.tape,h.output,h.size,fun b hb _=>h.block b hb,fun _ _ hl hb _=>⟨hl,hb⟩,fun b hb _=>if_neg (by omega)⟩
end
theorem Wl:∀l:List (List UInt8),Ak (l.map AV.st)=l.map AV.st
 |[]=>rfl
 |x::l=>by rw[List.map_cons,show Ak (AV.st x::l.map AV.st)=AV.st x::Ak (l.map AV.st)from rfl,Wl l]
theorem Zdj{P:Program}{k:TypeId}(hk:P.underlying k=some .string){w:World}{b:Nat}{L:List (List UInt8)}{me:Array MapEntry}{clock:Nat}(hb:w.heap[b]? = some (.map me clock))(hs:MQ L me clock)
  (hl:L.length≤1000000)(hr:∀s∈L,s.length≤1000000):
  ∃D:DataW Unit,w.ownsMap P k (fun _=>some (.lit (.bool true),[])) b 1000000 D∧(strKeys D).Perm L∧Maps.size D=L.length:=by
 obtain⟨ps,h1,h2,h3,h4,h5⟩:=hs;have hml:me.toList=ps.map FE:=by rw[h2]
 have hpl:ps.length=L.length:=by rw[←h1,List.length_map]
 have hsz:me.size=L.length:=by rw[h2,←hpl];simp
 have hrd:∀p∈ps,Go.WideElems.rd P k (fun _=>some ((.lit (.bool true):DataW Unit),[])) (FE p)=some (.string p.1,.lit (.bool true)):=fun p hp=>by
  have hw:=hr p.1 (by rw[←h1];exact List.mem_map_of_mem hp)
  refine Go.WideElems.rd_mk (yv:=(.lit (.bool true),[])) ?_ rfl
  have e:(⟨p.1.toArray⟩:ByteArray).size≤maxLen:=by
   show p.1.toArray.size≤_
   rw[List.size_toArray];unfold maxLen;omega
  simp[keyOf,hk,mapKey,FE,e]
 have hrgs:me.toList.map (Go.WideElems.rg P k (fun _=>some ((.lit (.bool true):DataW Unit),[])))=L.map fun s=>(Lit.string s,.lit (.bool true)):=by
  rw[hml,List.map_map,←h1,List.map_map];refine List.map_congr_left fun p hp=>?_
  simp only[Function.comp];rw[Go.WideElems.rg_of (hrd p hp)]
 have hfit:Fit P k (fun _=>some ((.lit (.bool true):DataW Unit),[])) me clock:=by
  refine⟨by unfold maxLen;omega,⟨fun x hx=>?_,?_,?_⟩,fun x hx=>?_⟩
  ·rw[hml]at hx
   obtain⟨p,hp,rfl⟩:=List.mem_map.1 hx;exact h4 p hp
  ·rw[hml,List.map_map]
   exact h3
  ·rw[hml,List.map_map]
   refine List.pairwise_map.2 ?_
   have :=h5;rw[←h1]at this;refine(List.pairwise_map.1 this).imp fun {p q} h e=>h ?_
   have e:B8 p.1=B8 q.1:=e;injection e with e
   have :=congrArg ByteArray.data e;simpa using this
  ·rw[hml]at hx
   obtain⟨p,hp,rfl⟩:=List.mem_map.1 hx;exact⟨_,hrd p hp⟩
 refine⟨_,⟨me,clock,hb,hfit,by omega,rfl⟩,?_,?_⟩
 ·rw[hrgs]
  show((List.foldr DataW.insert [] _).map (fun p:Lit×DataW Unit=>_root_.Go.strOf p.1)).Perm L
  have hp:=(Go.WideShapes.sorted_perm (L.map fun s=>((Lit.string s,.lit (.bool true)):Lit×DataW Unit))).map (fun p:Lit×DataW Unit=>_root_.Go.strOf p.1)
  rw[List.map_map]at hp;have e:(L.map ((fun p:Lit×DataW Unit=>_root_.Go.strOf p.1)∘fun s=>(Lit.string s,.lit (.bool true))))=L:=by
   rw[show((fun p:Lit×DataW Unit=>_root_.Go.strOf p.1)∘fun s=>(Lit.string s,.lit (.bool true)))=id from funext fun s=>rfl,List.map_id]
  rwa[e]at hp
 ·rw[Maps.size_eq,DataW.length_sorted,List.length_map]
  omega
theorem Zey(L:List (List UInt8)):AC prog 302 [.mp 0] [.ext (XS L)] (.fn (.func 324) [] [.ptr 1 0]) [.ext (XS L),.cells [.mp 0]]:=by
 refine Ar [] [] func302 ?_;refine run ?_;exact QW [0,1] (by rfl) (Pp 0 1 (by decide) (by rfl) (by rfl) (by rfl) (by rfl)) (by rfl) (by rfl) (by rfl)
theorem Zbg(L:List (List UInt8))(hl:L.length≤1000000)(hr:∀s∈L,s.length≤1000000):
  AC prog 301 [.fn (.func 324) [] [.ptr 1 0]] [.ext (XS L),.cells [.mp 0]] (.sl .ro ((L.mergeSort fun x y=>decide (x≤y)).map AV.st)) [.ext (XS L),.cells [.mp 0]]:=by
 refine⟨by kernel_rfl,fun w g cargs hw hargs=>?_⟩
 obtain⟨cv,rfl,hrv⟩:=Kh hargs;obtain⟨k1,k2,k3,arr,T,fr,k4,k5,k6,k7,k8⟩:=hw.obj 1 _ rfl;obtain⟨m1,m2,m3,mX⟩:=hw.obj 0 _ rfl;obtain⟨me,clock,m4,m5⟩:=mX w (fun _ _=>rfl)
 have hn2:g.nid=2:=hw.nid;cases hrv with
 | fn _ _ _ _ fa ca hf hc hrf hrc=>
  obtain rfl:fa = #[]:=Array.eq_empty_of_size_eq_zero hf;obtain⟨cp,rfl⟩:∃cp,ca = #[cp]:=by
   refine⟨ca[0]'(by rw[hc];simp),?_⟩
   apply Array.ext
   ·simpa using hc
   ·intro i hi hi'
    have:i=0:=by simp at hi';omega
    subst this;rfl
  have hcp:=hrc 0 (.ptr 1 0) cp rfl rfl;cases hcp
  obtain⟨mv,rfl⟩:∃mv,arr = #[mv]:=by
   refine⟨arr[0]'(by rw[k6];simp),?_⟩
   apply Array.ext
   ·simpa using k6
   ·intro i hi hi'
    have:i=0:=by simp at hi';omega
    subst this;rfl
  have hmv:=k8 0 (.mp 0) mv rfl rfl;cases hmv
  have hcell:w.cell? ⟨g.pl 1,0,none⟩=some (.map (some (g.pl 0))):=by
   rw[cell_of_row w (g.pl 1) 0 _ T fr k4];rfl
  obtain⟨D,d1,d2,d3⟩:=Zdj (P:=prog) (k:=9) underlying9 m4 m5 hl hr;have hB:g.pl 1<w.heap.size:=hw.lt 1 _ (by omega) k2
  have hseq:SeqGives Fence.wide 2 prog 324 #[.pointer (some ⟨g.pl 1,0,none⟩)] encStr (fun ss=>ss.Perm (strKeys D)) (Maps.size D) w:=
   AnyZ.keys_gives (ρ:=Tryz.keysA_ren) { Tryz.keysA with } Fence.wide _ trivial rfl (by omega) (g.pl 1) (g.pl 0) 1000000 D w hB hcell d1
  have hsrt:∀m,AnyZ.SortsIn prog Tryz.sortedA_ren Fence.wide m:=fun m=>
   ⟨fun blk off cap ss W hH hblk hsz=>callsIn_wide.2 (AnyM.slices_Sort_string Tryz.sortS blk off cap ss W hH hblk hsz),fun p cap W=>callsIn_wide.2 (AnyM.slices_Sort_string_none Tryz.sortS p cap W)⟩
  have cS:=AnyZ.sorted_in Tryz.sortedA Fence.wide 5 trivial trivial trivial trivial rfl (by omega) (hsrt _) (enters_of func20 (by kernel_rfl) rfl) 324 #[.pointer (some ⟨g.pl 1,0,none⟩)] trivial (enters_of func324 (by kernel_rfl) rfl) _ _ (by rw[d3];unfold maxLen;omega) (by rw[d3];omega) _ hseq
  change CallsIn _ _ prog 301 _ _ _ at cS;refine(callsIn_wide.1 cS).mono ?_
  rintro r w' ⟨v,ss,rfl,hS,hrow,hnil,hb⟩
  have hss:ss.mergeSort (fun x y=>decide (x≤y))=L.mergeSort fun x y=>decide (x≤y):=mergeSort_of_perm (hS.trans d2)
  rw[hss]at hrow;have hlen:ss.length=L.length:=(hS.trans d2).length_eq;rw[hlen]at hrow;have hll:(L.mergeSort fun x y=>decide (x≤y)).length=L.length:=List.length_mergeSort _
  generalize (L.mergeSort fun x y=>decide (x≤y))=so at *
  rcases hrow.2 with⟨rfl,hz⟩|⟨gb,cap,cur,rfl,hbase,hgb,r1,r2,r3,r4⟩
  ·obtain rfl:so=[]:=List.eq_nil_of_length_eq_zero (by omega)
   exact⟨_,g,rfl,hw.below hb,.sl _ .ro [] none 0 1 (fun _=>undef) (Nat.le_refl _) (Nat.zero_le _) (by simp) (fun h=>absurd h (Nat.lt_irrefl 0)) (by simp[Ak]) (by simp[Ak]) trivial,Evo.below g hb⟩
  ·refine⟨_,g.stab gb so.length,rfl,hw.belowS _ hb hbase,?_,Evo.belowS g _ hb hbase⟩
   have hcur:∀j,j<so.length→cur[j]? = some (encStr (so.getD j [])):=fun j hj=>by
    have h1:(so.map encStr)[j]? = some (encStr (so.getD j [])):=by
     rw[List.getElem?_map,List.getD_eq_getElem?_getD,List.getElem?_eq_getElem hj];rfl
    rw[←r4,List.getElem?_take_of_lt (by omega)]at h1
    simpa using h1
   have hfl:Ak (so.map AV.st)=so.map AV.st:=Wl so;rw[←hll];refine Rel.sl (g.stab gb so.length) .ro (so.map AV.st) _ cap 1 (fun j=>encStr (so.getD j [])) ?_ r2 (fun e he=>?_) (fun _=>⟨gb,0,rfl,fun j hj=>⟨?_,?_⟩⟩) (fun j hj=>rfl) (fun j u hu=>?_) trivial |> fun h=>by rwa[List.length_map]at h
   ·rw[List.length_map];omega
   ·obtain⟨n,_,rfl⟩:=List.mem_map.1 he;rfl
   ·rw[hfl,List.length_map]at hj
    simp only[Gh.stab,if_true];omega
   ·rw[hfl,List.length_map]at hj
    rw[Nat.zero_add,cell_of_row w' gb j cur _ (0,0) hgb];exact hcur j hj
   ·rw[hfl,List.getElem?_map]at hu
    obtain⟨n,hn,rfl⟩:=Option.map_eq_some_iff.1 hu
    have:so.getD j []=n:=by rw[List.getD_eq_getElem?_getD,hn];rfl
    simp only[this];exact .st _ _
end Pe
end
section
namespace Tp
open Tryz
open Go Co Sg Ac It
set_option maxRecDepth 100000
def nilC(id:By):Chn:=⟨id,[],[],[],0,false⟩
def AB(id:By)(L:List Ac.Act):Chn:=L.foldl Bz (nilC id)
theorem Ii(id:By)(L:List Ac.Act)(a:Ac.Act):AB id (L++[a])=Bz (AB id L) a:=by
 unfold AB;rw[List.foldl_append];rfl
theorem Mj:∀(L:List Ac.Act) (c:Chn),(L.foldl Bz c).acts=c.acts++L∧(L.foldl Bz c).id=c.id∧(L.foldl Bz c).gen=c.gen∧(L.foldl Bz c).fork=c.fork
 |[],c=>⟨by simp,rfl,rfl,rfl⟩
 |a::L,c=>by
  obtain⟨h1,h2,h3,h4⟩:=Mj L (Bz c a);exact⟨by rw[List.foldl_cons,h1];show c.acts++[a]++L=_;simp,h2,h3,h4⟩
theorem Cr(id:By)(L:List Ac.Act):(AB id L).acts=L:=(Mj L (nilC id)).1
theorem Jp(id:By)(L:List Ac.Act):(AB id L).id=id:=(Mj L (nilC id)).2.1
theorem V9(id:By)(L:List Ac.Act):(AB id L).gen=0:=(Mj L (nilC id)).2.2.1
theorem Wa(id:By)(L:List Ac.Act):(AB id L).fork=false:=(Mj L (nilC id)).2.2.2
theorem V8(id:By)(L:List Ac.Act)(a:Ac.Act):(AB id (L++[a])).prev=dg a:=by rw[Ii];rfl
def stepOk(id:By)(L:List Ac.Act)(a:Ac.Act):Prop:=
 if L=[]then C1 id a=true else Bh (AB id L) a=true∧BO (BM (AB id L)).pub a=true
def Ee(id:By)(L:List Ac.Act):Prop:=∀j a,L[j]? = some a→stepOk id (L.take j) a
theorem Zds(id:By):Ee id []:=fun j a h=>by simp at h
theorem Zdr{id:By}{L:List Ac.Act}{a:Ac.Act}(h:Ee id L)(ha:stepOk id L a):Ee id (L++[a]):=fun j x hx=>by
 rw[List.getElem?_append]at hx
 split at hx
 ·rename_i hj
  have :=h j x hx;rwa[List.take_append_of_le_length (by omega)]
 ·rename_i hj
  have:j-L.length=0:=by
   cases e:j-L.length with
   |zero=>rfl
   |succ n=>rw[e]at hx;simp at hx
  rw[this]at hx;cases hx
  have:j=L.length:=by omega
  subst this;rw[List.take_left];exact ha
theorem Qr{id:By}{a:Ac.Act}(h:C1 id a=true):a.author=id∧a.kind=0∧a.seq=0∧a.prev=[]∧CL a.n=id∧BO a.n a=true:=by
 unfold C1 at h;simp only[Bool.and_eq_true,Bool.not_eq_true',Bool.or_eq_false_iff,Bool.not_eq_false',beq_iff_eq]at h;obtain⟨⟨⟨⟨⟨h1,h2⟩,h3⟩,h4⟩,h5⟩,h6⟩:=h;exact⟨h1,h2,h3,h4,h5,h6⟩
theorem Hj{c:Chn}{a:Ac.Act}(h:Bh c a=true):Ac.right a=true∧a.author=c.id∧a.seq=c.acts.length∧a.prev=c.prev∧((a.kind=0)↔(c.acts.length=0))∧FT c a=true:=by
 unfold Bh at h;simp only[Bool.and_eq_true,decide_eq_true_eq]at h;obtain⟨⟨⟨⟨⟨h1,h2⟩,h3⟩,h4⟩,h5⟩,h6⟩:=h;exact⟨h1,h2,h3,h4,h5,h6⟩
theorem Zax{p:Int}{a:Ac.Act}(h:BO p a=true):Ac.right a=true:=by
 unfold BO at h;rw[Bool.and_eq_true]at h;exact h.1
theorem E6{id:By}{L:List Ac.Act}(h:Ee id L){j:Nat}{a:Ac.Act}(ha:L[j]? = some a):a.seq=j∧a.author=id∧Ac.right a=true∧(a.kind=0↔j=0):=by
 have hs:=h j a ha;have hl:=(List.getElem?_eq_some_iff.1 ha).1
 unfold stepOk at hs;split at hs
 ·rename_i h0
  have hj:j=0:=by
   have :=congrArg List.length h0;rw[List.length_take,List.length_nil]at this;omega
  obtain⟨h1,h2,h3,h4,h5,h6⟩:=Qr hs;subst hj;exact⟨h3,h1,Zax h6,by simp[h2]⟩
 ·rename_i h0
  obtain⟨h1,h2,h3,h4,h5,h6⟩:=Hj hs.1;rw[Cr,List.length_take]at h3 h5;rw[Jp]at h2
  have:min j L.length=j:=by omega
  rw[this]at h3 h5;exact⟨h3,h2,h1,h5⟩
theorem P5{id:By}{L:List Ac.Act}(h:Ee id L){x y:Ac.Act}(hx:x∈L)(hy:y∈L)(e:x.seq=y.seq):x=y:=by
 obtain⟨i,hi⟩:=List.mem_iff_getElem?.1 hx;obtain⟨j,hj⟩:=List.mem_iff_getElem?.1 hy;have h1:=(E6 h hi).1;have h2:=(E6 h hj).1
 have:i=j:=by omega
 subst this;rw[hi]at hj;cases hj
 rfl
theorem P6{id:By}{L:List Ac.Act}(h:Ee id L):L.Nodup:=by
 refine List.pairwise_iff_getElem.2 fun i j hi hj hij e=>?_
 have h1:=(E6 h (List.getElem?_eq_getElem hi)).1
 have h2:=(E6 h (List.getElem?_eq_getElem hj)).1
 rw[e]at h1;omega
theorem Ml{α:Type _}{p:α→Bool}{a:α}:∀{l:List α},l.Nodup→a∈l→p a=true→(∀x∈l,p x=true→x=a)→l.filter p=[a]
 |[],_,h,_,_=>by simp at h
 | x::l,hn,hm,hp,hu=>by
  rw[List.nodup_cons]at hn;rw[List.filter_cons];by_cases hx:p x=true
  ·obtain rfl:=hu x (by simp) hx
   rw[if_pos hx];congr 1
   rw[List.filter_eq_nil_iff];intro y hy hpy;have :=hu y (List.mem_cons_of_mem _ hy) hpy;subst this;exact hn.1 hy
  ·rw[if_neg hx]
   refine Ml hn.2 ?_ hp fun y hy=>hu y (List.mem_cons_of_mem _ hy)
   rcases List.mem_cons.1 hm with rfl|h
   ·exact absurd hp hx
   ·exact h
theorem ZcO(out:List Ac.Act)(a:Ac.Act):(Er out a).Perm (a::out):=by
 unfold Er;refine List.perm_middle.trans ?_
 rw[List.take_append_drop]
theorem SX:∀(l out:List Ac.Act),(D9 out l).Perm (out++l)
 |[],out=>by rw[D9,List.append_nil]
 |a::l,out=>by
  rw[D9];refine(SX l _).trans (((ZcO out a).append_right l).trans ?_)
  exact List.perm_middle.symm
theorem Zis(k:List Ac.Act)(id:By):(BK k id).Perm (k.filter fun a=>a.author==id):=by
 have :=(SX k []).filter fun a=>a.author==id
 rwa[List.nil_append]at this
theorem VP{id:By}{L A:List Ac.Act}(h:Ee id L)(hp:A.Perm L):∀(n j:Nat),0<j→j≤L.length→L.length<n+j→C3 n A (AB id (L.take j))=AB id L
 |0,j,_,h1,h2=>by omega
 | n+1,j,h0,h1,h2=>by
  have hnd:A.Nodup:=hp.nodup_iff.2 (P6 h);have hne:L.take j≠[]:=fun e=>by
   have :=congrArg List.length e;rw[List.length_take,List.length_nil]at this;omega
  have htl:(L.take j).length=j:=by rw[List.length_take];omega
  unfold C3;by_cases hj:j<L.length
  ·have hg:L[j]? = some L[j]:=List.getElem?_eq_getElem hj
   have hs:=h j _ hg;unfold stepOk at hs;rw[if_neg hne]at hs;have hc:BJ A (AB id (L.take j))=[L[j]]:=by
    refine Ml hnd (hp.mem_iff.2 (List.getElem_mem hj)) (by rw[Bool.and_eq_true];exact hs) fun x hx hpx=>?_
    rw[Bool.and_eq_true]at hpx;have h3:=(Hj hpx.1).2.2.1;rw[Cr,htl]at h3;exact P5 h (hp.mem_iff.1 hx) (List.getElem_mem hj) (by rw[h3,(E6 h hg).1])
   rw[hc];simp only
   rw[←Ii,←List.take_succ_eq_append_getElem hj];exact VP h hp n (j+1) (by omega) (by omega) (by omega)
  ·have:j=L.length:=by omega
   subst this;rw[List.take_length];have hc:BJ A (AB id L)=[]:=by
    rw[BJ,List.filter_eq_nil_iff];intro x hx hpx;rw[Bool.and_eq_true]at hpx;have h3:=(Hj hpx.1).2.2.1;rw[Cr]at h3;obtain⟨i,hi⟩:=List.mem_iff_getElem?.1 (hp.mem_iff.1 hx);have h4:=(E6 h hi).1;have :=(List.getElem?_eq_some_iff.1 hi).1
    omega
   rw[hc];simp only
   have :=Wa id L;generalize AB id L=c at *;cases c
   simp only at this
   rw[this]
structure Inv(k out:List Ac.Act):Prop where
 perm:k.Perm out
 nodup:(out.map dg).Nodup
 ok:∀id,Ee id (out.filter fun a=>a.author==id)
abbrev Aw(out:List Ac.Act)(id:By):List Ac.Act:=out.filter fun a=>a.author==id
theorem ZeO:Inv [] []:=⟨.refl _,by simp,fun id=>Zds id⟩
theorem Inv.chain{k out:List Ac.Act}(h:Inv k out)(id:By):Bc k id=AB id (Aw out id):=by
 have hp:(BK k id).Perm (Aw out id):=(Zis k id).trans (h.perm.filter _)
 have hok:Ee id (Aw out id):=h.ok id
 have hll:(Aw out id).length≤k.length:=by
  rw[h.perm.length_eq];exact List.length_filter_le _ _
 unfold Bc;generalize Aw out id=L at *;generalize BK k id=A at *;have hnd:A.Nodup:=hp.nodup_iff.2 (P6 hok);cases hL:L with
 |nil=>
  subst hL;have hA:A=[]:=hp.eq_nil;subst hA;rfl
 | cons a0 L'=>
  have h0:L[0]? = some a0:=by rw[hL];rfl
  have hs:=hok 0 a0 h0;rw[List.take_zero]at hs;unfold stepOk at hs;rw[if_pos rfl]at hs;have hb:Ct A id=[a0]:=by
   refine Ml hnd (hp.mem_iff.2 (by rw[hL];simp)) hs fun x hx hpx=>?_
   refine P5 hok (hp.mem_iff.1 hx) (by rw[hL];simp) ?_
   rw[(Qr hpx).2.2.1,(E6 hok h0).1];rfl
  rw[hb];simp only
  have h1:Bz ⟨id,[],[],[],0,false⟩ a0=AB id (L.take 1):=by rw[hL];rfl
  rw[h1,VP hok hp (k.length+1) 1 (by omega) (by rw[hL];simp) (by omega),hL]
theorem VH:∀(l:List Ac.Act) (d:By),d≠[]→(Ff l d=true↔d∈l.map dg)
 |[],d,_=>by simp[Ff,Gn]
 | a::l,d,hd=>by
  have ih:=VH l d hd;have hd':(d==[])=false:=by simpa using hd
  unfold Ff at *;unfold Gn;by_cases e:dg a=d
  ·rw[if_neg (by rw[hd'];simp[e])]
   simp[e]
  ·rw[if_pos (by rw[hd'];simp[e])]
   rw[List.length_cons,List.map_cons,List.mem_cons];simp only[decide_eq_true_eq]at ih ⊢;rw[←ih];constructor
   ·intro h;exact .inr (by omega)
   ·rintro(h|h)
    ·exact absurd h.symm e
    ·omega
theorem ZgO{a:Ac.Act}(h:Ac.right a=true):dg a≠[]:=by
 have hb:=It.bytes_ne (Sl.act_signed [] h).1;unfold dg It.digest;rw[if_neg hb];intro e;have :=congrArg List.length e;rw[show(Sm.sha (It.bytes (Ay a))).length=32 from rfl]at this
 cases this
theorem Zii{k:List Ac.Act}{a:Ac.Act}(h:Ff k (dg a)=false):(DJ k a).1.Perm (a::k):=by
 unfold DJ;rw[if_neg (by rw[h];decide)]
 refine List.perm_middle.trans ?_
 rw[List.take_append_drop]
structure Acc(k:List Ac.Act)(a:Ac.Act):Prop where
 right:Ac.right a=true
 new:Ff k (dg a)=false
 step:(a.kind=0∧(Bc k a.author).acts=[]∧CL a.n=a.author∧BO a.n a=true) ∨
  (a.kind≠0∧(Bc k a.author).acts≠[]∧Bh (Bc k a.author) a=true∧BO (BM (Bc k a.author)).pub a=true)
theorem Ziv{k:List Ac.Act}{me:Int}{a:Ac.Act}(h:ES k me a=0):Acc k a:=by
 unfold ES at h;simp only at h
 by_cases h1:Ac.right a=true
 ·rw[if_neg (by rw[h1];decide)]at h
  by_cases h2:Ff k (dg a)=true
  ·rw[if_pos h2]at h;cases h
  ·rw[if_neg h2]at h
   refine⟨h1,by simpa using h2,?_⟩
   by_cases h3:a.kind=0
   ·rw[if_pos h3]at h
    by_cases h4:a.m≠me
    ·rw[if_pos h4]at h;cases h
    rw[if_neg h4]at h;by_cases h5:(Bc k a.author).acts≠[]∨(Bc k a.author).fork=true
    ·rw[if_pos h5]at h;cases h
    rw[if_neg h5]at h;by_cases h6:CL a.n≠a.author
    ·rw[if_pos h6]at h;cases h
    rw[if_neg h6]at h;by_cases h7:BO a.n a=false
    ·rw[if_pos h7]at h;cases h
    exact .inl ⟨h3,by simpa using fun hh=>h5 (.inl hh),by simpa using h6,by simpa using h7⟩
   ·rw[if_neg h3]at h
    by_cases h4:(Bc k a.author).acts=[]
    ·rw[if_pos h4]at h;cases h
    rw[if_neg h4]at h;by_cases h5:(Bc k a.author).fork=true
    ·rw[if_pos h5]at h;cases h
    rw[if_neg h5]at h;by_cases h6:(BM (Bc k a.author)).home≠me∧(a.kind≠18∨a.m≠me)
    ·rw[if_pos h6]at h;cases h
    rw[if_neg h6]at h;by_cases h7:Bh (Bc k a.author) a=false
    ·rw[if_pos h7]at h;cases h
    rw[if_neg h7]at h;by_cases h8:BO (BM (Bc k a.author)).pub a=false
    ·rw[if_pos h8]at h;cases h
    exact .inr ⟨h3,h4,by simpa using h7,by simpa using h8⟩
 ·rw[if_pos (by simpa using h1)]at h;cases h
theorem OH(out:List Ac.Act)(a:Ac.Act)(id:By):Aw (out++[a]) id=if a.author=id then Aw out id++[a]else Aw out id:=by
 unfold Aw;rw[List.filter_append,List.filter_cons,List.filter_nil];by_cases h:a.author=id
 ·rw[if_pos h,if_pos (by rw[h];exact beq_self_eq_true _)]
 ·rw[if_neg h,if_neg (by simpa using h),List.append_nil]
theorem Zda{a:Ac.Act}(h:Ac.right a=true)(hk:a.kind=0):a.seq=0∧a.prev=[]:=by
 have hp:=(Ac.right_iff.1 h).2.1;unfold Ac.placed at hp;split at hp
 ·rename_i hs
  simp only[Bool.and_eq_true,decide_eq_true_eq]at hp;exact⟨hs,hp.2⟩
 ·simp only[Bool.and_eq_true,decide_eq_true_eq]at hp
  exact absurd hk hp.1.2
theorem Inv.stepOk{k out:List Ac.Act}(h:Inv k out){a:Ac.Act}(ha:Acc k a):stepOk a.author (Aw out a.author) a:=by
 have hc:=h.chain a.author;rcases ha.step with⟨h1,h2,h3,h4⟩|⟨h1,h2,h3,h4⟩
 ·rw[hc,Cr]at h2
  unfold Tp.stepOk;rw[if_pos h2];obtain⟨p1,p2⟩:=Zda ha.right h1;unfold C1;simp[h1,h3,h4,p1,p2]
 ·rw[hc]at h2 h3 h4
  rw[Cr]at h2;unfold Tp.stepOk;rw[if_neg h2];exact⟨h3,h4⟩
theorem Inv.add{k out:List Ac.Act}(h:Inv k out){a:Ac.Act}(ha:Acc k a):Inv (DJ k a).1 (out++[a]):=by
 have hn:dg a∉out.map dg:=fun hm=>by
  have:dg a∈k.map dg:=(h.perm.map dg).mem_iff.2 hm;rw[←VH k (dg a) (ZgO ha.right),ha.new]at this;cases this
 refine⟨(Zii ha.new).trans (((h.perm).cons a).trans ?_),?_,fun id=>?_⟩
 ·exact(List.perm_append_singleton a out).symm
 ·rw[List.map_append,List.nodup_append]
  refine⟨h.nodup,by simp,fun x hx y hy e=>?_⟩
  rw[List.map_cons,List.map_nil,List.mem_singleton]at hy;subst e hy;exact hn hx
 ·show Ee id (Aw (out++[a]) id)
  rw[OH];split
  ·rename_i e
   subst e;exact Zdr (h.ok _) (h.stepOk ha)
  ·exact h.ok id
theorem Kg{α β:Type _}{f:α→β}:∀{l:List α},(l.map f).Nodup → ∀{x y:α},x∈l→y∈l→f x=f y→x=y
 |[],_,_,_,hx,_,_=>by simp at hx
 | a::l,hn,x,y,hx,hy,e=>by
  rw[List.map_cons,List.nodup_cons]at hn;rcases List.mem_cons.1 hx with rfl|hx
  ·rcases List.mem_cons.1 hy with rfl|hy
   ·rfl
   ·exact absurd (List.mem_map.2 ⟨y,hy,e.symm⟩) hn.1
  ·rcases List.mem_cons.1 hy with e'|hy
   ·rw[e']at e
    exact absurd (List.mem_map.2 ⟨x,hx,e⟩) hn.1
   ·exact Kg hn.2 hx hy e
theorem Inv.prev_uniq{k out:List Ac.Act}(h:Inv k out){i j:By}(hi:Aw out i≠[])(hj:Aw out j≠[])(e:(AB i (Aw out i)).prev=(AB j (Aw out j)).prev):i=j:=by
 obtain⟨x,L,hx⟩:∃x L,Aw out i=L++[x]:=⟨_,_,(List.dropLast_concat_getLast hi).symm⟩
 obtain⟨y,M,hy⟩:∃y M,Aw out j=M++[y]:=⟨_,_,(List.dropLast_concat_getLast hj).symm⟩
 rw[hx,hy,V8,V8]at e;have mx:x∈Aw out i:=by rw[hx];simp
 have my:y∈Aw out j:=by rw[hy];simp
 have ex:x.author=i:=by simpa using (List.mem_filter.1 mx).2
 have ey:y.author=j:=by simpa using (List.mem_filter.1 my).2
 have:x=y:=Kg h.nodup (List.mem_filter.1 mx).1 (List.mem_filter.1 my).1 e;rw[←ex,←ey,this]
end Tp
end
section
namespace Tp
open Tryz
open Go Co Sg Ac It
set_option maxRecDepth 100000
theorem Zdd(n:Int):AL (AL n 4) 4=AL n 4:=by
 have h:=Sl.pick_in (n:=n) (m:=4) (by decide)
 change 0≤AL n 4∧AL n 4<4 at h;show(if(AL n 4).tmod 4<0 then _ else _)=_
 have:(AL n 4).tmod 4=AL n 4:=Int.tmod_eq_of_lt h.1 h.2;rw[this,if_neg (by omega)]
theorem MH(who:Int)(j:Nat):AF (AL who 4) j=AF who j:=by unfold AF;rw[Zdd]
theorem OR(who:Int):AE (AL who 4)=AE who:=by unfold AE;rw[MH]
theorem Rz{a b:Int}(h:AL a 4=AL b 4)(j:Nat):AF a j=AF b j:=by rw[←MH a,←MH b,h]
def KH:Prop:=∀a b:Int,AE a=AE b→AL a 4=AL b 4
theorem Lt(k:Key)(d:Ac.Act):Bs k d=Al∨Bs k d={ d with sig:=EF k (Bx { d with sig:=Cn }) }:=by
 unfold Bs;simp only
 split
 ·exact .inr rfl
 ·exact .inl rfl
structure Like(a d:Ac.Act):Prop where
 kind:a.kind=d.kind
 object:a.object=d.object
 target:a.target=d.target
 scope:a.scope=d.scope
 group:a.group=d.group
 to:a.to=d.to
 body:a.body=d.body
 epoch:a.epoch=d.epoch
 wraps:a.wraps=d.wraps
 n:a.n=d.n
 m:a.m=d.m
theorem Zd0(k:List Ac.Act)(me time:Int)(w:Wish):Like (B4 k me time w) (Dd k me time w):=by
 unfold B4;simp only
 repeat' split
 all_goals exact⟨rfl,rfl,rfl,rfl,rfl,rfl,rfl,rfl,rfl,rfl,rfl⟩
theorem Zd1(k:List Ac.Act)(me time:Int)(w:Wish):(B4 k me time w).author=(Dd k me time w).author∨(B4 k me time w).author=AE (IntKind.i64.wrap (w.who+1))∧(B4 k me time w).prev=(Dd k me time w).prev:=by
 unfold B4;simp only
 repeat' split
 all_goals first|exact .inl rfl|exact .inr ⟨rfl,rfl⟩
theorem Zef{a:Ac.Act}(h:Like a Al)(hr:Ac.right a=true):False:=by
 obtain⟨_,_,_,_,r,h5,_,h7⟩:=Ac.right_iff.1 hr;rw[h.kind]at h5
 have:r=.begin:=by
  have h5:some Ru.begin=some r:=h5;cases h5;rfl
 subst this;simp only[Ru.ok,Ac.home,Ac.pub,Bool.and_eq_true,Ch]at h7;have :=h.n;change a.n=0 at this;omega
def nk(out:List Ac.Act)(id:By):Nat:=(AB id (Aw out id)).keys.length
structure Cont(out:List Ac.Act)(C:Chn)(a:Ac.Act):Prop where
 text:a.kind=1∨a.kind=2∨a.kind=3∨a.kind=14→a.scope=0∨(a.scope=1∧a.group=[]∧Gr C C.acts.length=false∧a.epoch=(AS C C.acts.length).1)
 grant:a.kind=16→a.scope=1∧a.group=[]∧a.to=AR C C.acts.length∧a.epoch=(if(AS C C.acts.length).2.2=true then(AS C C.acts.length).1+1 else(AS C C.acts.length).1) ∧
  a.wraps.length=a.to.length ∧ ∀(i:Nat) t w,a.to[i]? = some t→a.wraps[i]? = some w → ∃who j,t=AE who∧w.to=(AF who j).pub∧j<nk out t
 accept:a.kind=8 → ∃who,a.target=AE who
def MP(out:List Ac.Act):Prop:=∀id,Aw out id≠[] → ∃who,id=AE who ∧ ∀(j:Nat) k,(AB id (Aw out id)).keys[j]? = some k→k.pub=(AF who j).pub
theorem Zeu(w:Wish):Ca w∈([1,1,2,3,5,4,6,7,8,10,11,13,14,15,18,-1,0]:List Int):=by
 unfold Ca;rw[List.getD_eq_getElem?_getD]
 cases h:([1,1,2,3,5,4,6,7,8,10,11,13,14,15,18,-1]:List Int)[(AL w.kind 16).toNat]? with
 |none=>simp
 |some x=>
  have :=List.mem_of_getElem? h;rw[Option.getD_some];simp only[List.mem_cons,List.not_mem_nil,or_false]at this ⊢;omega
theorem Zet(w:Wish):Ca w≠0:=by
 have h:=Sl.pick_in (n:=w.kind) (m:=16) (by decide)
 change 0≤AL w.kind 16∧AL w.kind 16<16 at h;unfold Ca;obtain⟨n,hn⟩:∃n:Nat,AL w.kind 16=n:=⟨(AL w.kind 16).toNat,by omega⟩
 rw[hn]at h ⊢;rw[Int.toNat_natCast]
 have:n<16:=by omega
 clear h hn;revert n
 decide
theorem ZfP(k:List Ac.Act)(c:Chn)(w:Wish)(a:Ac.Act):(Dy k c w a).author=a.author∧(Dy k c w a).prev=a.prev∧(Dy k c w a).kind=a.kind∧(Dy k c w a).scope=a.scope:=by
 unfold Dy;repeat' split
 all_goals exact⟨rfl,rfl,rfl,rfl⟩
theorem Zd5{k out:List Ac.Act}(hI:Inv k out)(hK:MP out)(me time:Int)(w:Wish)(hne:Dd k me time w≠Al):
  let d:=Dd k me time w
  let C:=Bc k (AE w.who)
  (C.acts=[]∧d.kind=0∧d.n=(AF w.who 0).pub∧d.author=AE w.who) ∨
  (C.acts≠[]∧d.kind≠0∧d.author=AE w.who∧d.prev=C.prev∧Cont out C d∧(d.kind=18→d.n=(AF w.who C.keys.length).pub)):=by
 intro d C;have hd:d=Dd k me time w:=rfl;rw[←hd]at hne;have hid:C.id=AE w.who:=by
  show(Bc k _).id=_
  rw[hI.chain,Jp]
 unfold Dd at hd;simp only at hd
 change d=if C.acts=[]then _ else if Ca w<0 then GF k C (AF w.who (C.keys.length-1)) w time else Bs (AF w.who (C.keys.length-1)) (Dy k C w (BU C (Ca w) time))at hd
 by_cases h0:C.acts=[]
 ·rw[if_pos h0]at hd
  refine .inl ⟨h0,?_⟩
  unfold Bi at hd;rcases Lt (AF w.who 0) { Al with author:=AE w.who,kind:=0,time:=time,text:=[97,99,116,111,114]++D1 (AL w.who 4).toNat,n:=(AF w.who 0).pub,m:=me } with h|h
  ·exact absurd (hd.trans h) hne
  ·rw[h]at hd
   rw[hd];exact⟨rfl,rfl,rfl⟩
 ·rw [if_neg h0]at hd
  refine .inr ⟨h0,?_⟩
  by_cases hk:Ca w<0
  ·rw [if_pos hk]at hd
   generalize AF w.who (C.keys.length-1)=key at *;have plain:∀txt,d=Bs key { BU C 1 time with text:=txt }→d.kind≠0∧d.author=AE w.who∧d.prev=C.prev∧Cont out C d∧(d.kind=18→d.n=(AF w.who C.keys.length).pub):=fun txt he=>by
    rcases Lt key { BU C 1 time with text:=txt } with h|h
    ·exact absurd (he.trans h) hne
    ·rw[h]at he
     rw[he];exact⟨by show(1:Int)≠0;decide,hid,rfl,⟨fun _=>.inl rfl,fun h=>absurd (show(1:Int)=16 from h) (by decide),fun h=>absurd (show(1:Int)=8 from h) (by decide)⟩,fun h=>absurd (show(1:Int)=18 from h) (by decide)⟩
   unfold GF at hd;by_cases hp:(EI key C time w.txt).2≠11
   ·rw[if_pos hp]at hd
    unfold EI at hd hp;by_cases c1:Gw key C=false
    ·rw[if_pos c1]at hd;exact absurd hd hne
    rw[if_neg c1]at hd hp;by_cases c2:H3 key C=true
    ·rw[if_pos c2]at hp;exact absurd rfl hp
    rw[if_neg c2]at hd hp;simp only at hd
    split at hd
    ·exact absurd hd hne
    split at hd
    ·exact absurd hd hne
    unfold H3 at c2;rw[Bool.or_eq_true,not_or]at c2;have hf:Gr C C.acts.length=false:=by simpa using c2.1
    simp only at hd
    rcases Lt key { BU C 1 time with scope:=1,epoch:=(AS C C.acts.length).1,body:=G2 (Di key (AS C C.acts.length).1) (Sm.sha (text wPost++text (Di key (AS C C.acts.length).1)++Ai (C.acts.length:Int)++text C.prev++text w.txt)) w.txt } with h|h
    ·exact absurd (hd.trans h) hne
    ·rw[h]at hd
     rw[hd];exact⟨by show(1:Int)≠0;decide,hid,rfl,⟨fun _=>.inr ⟨rfl,rfl,hf,rfl⟩,fun h=>absurd (show(1:Int)=16 from h) (by decide),fun h=>absurd (show(1:Int)=8 from h) (by decide)⟩,fun h=>absurd (show(1:Int)=18 from h) (by decide)⟩
   ·rw [if_neg hp]at hd
    by_cases ha:(CY k (AR C C.acts.length)).any (fun p=>p==1)=true
    ·rw[if_pos ha]at hd
     exact plain w.txt hd
    ·rw [if_neg ha]at hd
     unfold Gq at hd;simp only at hd
     generalize he:(if(AS C C.acts.length).2.2=true then(AS C C.acts.length).1+1 else(AS C C.acts.length).1)=ep at hd
     split at hd
     ·exact absurd hd hne
     split at hd
     ·exact absurd hd hne
     split at hd
     ·exact absurd hd hne
     split at hd
     ·exact absurd hd hne
     rcases Lt key { BU C 16 time with scope:=1,to:=AR C C.acts.length,epoch:=ep,wraps:=Du (Di key ep) 0 (CY k (AR C C.acts.length)) } with h|h
     ·exact absurd (hd.trans h) hne
     ·rw[h]at hd
      rw[hd];have hw:∀(s:By) (i:Nat) (ps:List Int),(Du s i ps).length=ps.length ∧ ∀(j:Nat) x,(Du s i ps)[j]? = some x→ps[j]? = some x.to:=by
       intro s i ps;induction ps generalizing i with
       |nil=>exact⟨rfl,fun j x h=>by simp[Du]at h⟩
       |cons p ps ih=>
        obtain⟨g1,g2⟩:=ih (i+1);refine⟨by rw[Du,List.length_cons,g1,List.length_cons],fun j x hx=>?_⟩
        rw[Du]at hx;match j,hx with
        |0,hx=>cases hx;rfl
        |j+1,hx=>exact g2 j x hx
      obtain⟨g1,g2⟩:=hw (Di key ep) 0 (CY k (AR C C.acts.length));refine⟨by show(16:Int)≠0;decide,hid,rfl,⟨fun h=>?_,fun _=>⟨rfl,rfl,rfl,?_,?_,fun i t x ht hx=>?_⟩,fun h=>absurd (show(16:Int)=8 from h) (by decide)⟩,fun h=>absurd (show(16:Int)=18 from h) (by decide)⟩
      ·exfalso
       have h:(16:Int)=1∨(16:Int)=2∨(16:Int)=3∨(16:Int)=14:=h;omega
      ·exact he.symm
      ·show(Du _ 0 _).length=(AR C C.acts.length).length
       rw[g1,CY,List.length_map]
      ·have hx:=g2 i x hx
       have ht:(AR C C.acts.length)[i]? = some t:=ht;rw[CY,List.getElem?_map,ht]at hx
       simp only[Option.map_some,Option.some.injEq]at hx;rw[hI.chain]at hx;by_cases hke:(AB t (Aw out t)).keys=[]
       ·rw[if_pos hke]at hx
        exfalso;apply ha
        rw[List.any_eq_true];refine⟨1,?_,by decide⟩
        rw[CY,List.mem_map];exact⟨t,List.mem_of_getElem? ht,by rw[hI.chain,if_pos hke]⟩
       ·rw[if_neg hke]at hx
        have hbi:Aw out t≠[]:=fun e=>hke (by rw[e];rfl)
        obtain⟨who,h1,h2⟩:=hK t hbi;have hpos:0<(AB t (Aw out t)).keys.length:=List.length_pos_iff.2 hke
        refine⟨who,(AB t (Aw out t)).keys.length-1,h1,?_,by unfold nk;omega⟩
        rw[←hx];refine h2 _ _ ?_
        unfold BM;rw[List.getD_eq_getElem?_getD,List.getElem?_eq_getElem (by omega),Option.getD_some]
  ·rw[if_neg hk]at hd
   rcases Lt (AF w.who (C.keys.length-1)) (Dy k C w (BU C (Ca w) time))with h|h
   ·exact absurd (hd.trans h) hne
   ·rw[h]at hd
    obtain⟨f1,f2,f3,f4⟩:=ZfP k C w (BU C (Ca w) time);have hkd:d.kind=Ca w:=by rw[hd];exact f3
    have hkm:=Zeu w;have hk0:=Zet w;simp only[List.mem_cons,List.not_mem_nil,or_false]at hkm;refine⟨by rw[hkd];exact hk0,by rw[hd];exact f1.trans hid,by rw[hd];exact f2,⟨fun _=>.inl (by rw[hd];exact f4),fun h=>?_,fun h=>?_⟩,fun h=>?_⟩
    ·exfalso
     rw[hkd]at h;omega
    ·rw[hkd]at h
     refine⟨w.whom,?_⟩
     rw[hd];unfold Dy;rw[show(BU C (Ca w) time).kind=8 from h]
     rfl
    ·rw[hkd]at h
     rw[hd];unfold Dy;rw[show(BU C (Ca w) time).kind=18 from h]
     rfl
theorem Cont.like{out:List Ac.Act}{C:Chn}{a d:Ac.Act}(h:Cont out C d)(hl:Like a d):Cont out C a:=by
 obtain⟨l1,l2,l3,l4,l5,l6,l7,l8,l9,l10,l11⟩:=hl;constructor
 ·rw[l1,l4,l5,l8];exact h.text
 ·rw[l1,l4,l5,l6,l8,l9];exact h.grant
 ·rw[l1,l3];exact h.accept
theorem ZdY{k out:List Ac.Act}(hI:Inv k out)(hK:MP out)(hF:KH){me time:Int}{w:Wish}(h:Acc k (B4 k me time w)):
  let a:=B4 k me time w
  let C:=Bc k a.author
  a.author=AE w.who∧((C.acts=[]∧a.kind=0∧a.n=(AF w.who 0).pub)∨(C.acts≠[]∧a.kind≠0∧Cont out C a∧(a.kind=18→a.n=(AF w.who C.keys.length).pub))):=by
 have hl:=Zd0 k me time w;have hau:=Zd1 k me time w;have hne:Dd k me time w≠Al:=fun e=>Zef (by rw[←e];exact hl) h.right
 have hm:=Zd5 hI hK me time w hne;generalize B4 k me time w=a at *;generalize Dd k me time w=d at *;simp only at hm ⊢
 rcases hm with⟨m1,m2,m3,m4⟩|⟨m1,m2,m3,m4,m5,m6⟩
 ·rcases h.step with⟨s1,s2,s3,s4⟩|⟨s1,_⟩
  ·have ha:a.author=AE w.who:=by rw[←s3,hl.n,m3];rfl
   rw[ha]at s2 ⊢;exact⟨rfl,.inl ⟨s2,s1,hl.n.trans m3⟩⟩
  ·exact absurd (hl.kind.trans m2) s1
 ·rcases h.step with⟨s1,_⟩|⟨s1,s2,s3,s4⟩
  ·exact absurd (hl.kind.symm.trans s1) m2
  ·have ha:a.author=AE w.who:=by
    rcases hau with e|⟨e1,e2⟩
    ·rw[e,m3]
    ·have hp:=(Hj s3).2.2.2.1
     rw[e2,m4]at hp;rw[hI.chain]at m1 s2;rw[Cr]at m1 s2;rw[hI.chain,hI.chain]at hp;exact(hI.prev_uniq m1 s2 hp).symm
   rw[ha]at s2 ⊢;exact⟨rfl,.inr ⟨s2,s1,m5.like hl,fun e=>by rw[hl.n];exact m6 (hl.kind.symm.trans e)⟩⟩
theorem MD(c:Chn)(a:Ac.Act):(Bz c a).keys=if a.kind=18∨a.kind=0 then c.keys++[⟨if a.kind=0 then 0 else((c.acts.length+1:Nat):Int),a.n,a.m⟩]else c.keys:=rfl
theorem ZdH{out:List Ac.Act}(a:Ac.Act)(id:By):nk out id≤nk (out++[a]) id:=by
 unfold nk;rw[OH];split
 ·rw[Ii,MD]
  split
  ·rw[List.length_append];omega
  ·exact Nat.le_refl _
 ·exact Nat.le_refl _
theorem Zex{k out:List Ac.Act}(hI:Inv k out)(hK:MP out)(hF:KH){a:Ac.Act}{who0:Int}
  (ha:a.author=AE who0)(hc:((Bc k a.author).acts=[]∧a.kind=0∧a.n=(AF who0 0).pub)∨((Bc k a.author).acts≠[]∧a.kind≠0∧(a.kind=18→a.n=(AF who0 (Bc k a.author).keys.length).pub))):MP (out++[a]):=fun id hid=>by
 rw[OH]at hid ⊢;by_cases e:a.author=id
 ·rw [if_pos e]at hid ⊢
  rw[Ii,MD];subst e;refine⟨who0,ha,?_⟩
  rw[hI.chain,Cr]at hc;rcases hc with⟨h1,h2,h3⟩|⟨h1,h2,h3⟩
  ·rw[if_pos (.inr h2),h1]
   intro j x hx;match j,hx with
   |0,hx=>cases hx;exact h3
   |j+1,hx=>simp[AB,nilC]at hx
  ·obtain⟨who,w1,w2⟩:=hK a.author h1
   have hw:∀j,AF who j=AF who0 j:=Rz (hF _ _ (w1.symm.trans ha))
   intro j x hx;split at hx
   ·rename_i hk
    have hk18:a.kind=18:=by
     rcases hk with hk|hk
     ·exact hk
     ·exact absurd hk h2
    rw[List.getElem?_append]at hx
    split at hx
    ·rw[←hw];exact w2 j x hx
    ·rename_i hj
     have:j-(AB a.author (Aw out a.author)).keys.length=0:=by
      cases e:j-(AB a.author (Aw out a.author)).keys.length with
      |zero=>rfl
      |succ n=>rw[e]at hx;simp at hx
     rw[this]at hx;cases hx
     have:j=(AB a.author (Aw out a.author)).keys.length:=by omega
     subst this;exact h3 hk18
   ·rw[←hw];exact w2 j x hx
 ·rw[if_neg e]at hid ⊢
  exact hK id hid
def RH(out:List Ac.Act):Prop:=∀(id:By) (n:Nat) a,(Aw out id)[n]? = some a→Cont out (AB id ((Aw out id).take n)) a
theorem Cont.mono{out:List Ac.Act}{C:Chn}{a:Ac.Act}(b:Ac.Act)(h:Cont out C a):Cont (out++[b]) C a:=
 ⟨h.text,fun hk=>by
  obtain⟨h1,h2,h3,h4,h5,h6⟩:=h.grant hk;refine⟨h1,h2,h3,h4,h5,fun i t w ht hw=>?_⟩
  obtain⟨who,j,g1,g2,g3⟩:=h6 i t w ht hw;exact⟨who,j,g1,g2,Nat.lt_of_lt_of_le g3 (ZdH b t)⟩,h.accept⟩
theorem Zg2{out:List Ac.Act}{C:Chn}{a:Ac.Act}(h:a.kind=0):Cont out C a:=
 ⟨fun h'=>by rw[h]at h';omega,fun h'=>by rw[h]at h';omega,fun h'=>by rw[h]at h';omega⟩
theorem Zg0{k out:List Ac.Act}(hI:Inv k out)(hC:RH out){a:Ac.Act}(hc:Cont out (Bc k a.author) a):RH (out++[a]):=fun id n x hx=>by
 rw[OH]at hx ⊢;by_cases e:a.author=id
 ·rw[if_pos e]at hx ⊢
  rw[List.getElem?_append]at hx
  split at hx
  ·rename_i hn
   rw[List.take_append_of_le_length (by omega)]
   exact(hC id n x hx).mono a
  ·rename_i hn
   have h0:n-(Aw out id).length=0:=by
    cases e:n-(Aw out id).length with
    |zero=>rfl
    |succ n=>rw[e]at hx;simp at hx
   rw[h0]at hx;cases hx
   have:n=(Aw out id).length:=by omega
   subst this;rw[List.take_left];rw[hI.chain,e]at hc;exact hc.mono _
 ·rw[if_neg e]at hx ⊢
  exact(hC id n x hx).mono a
structure Grown(k out:List Ac.Act):Prop where
 inv:Inv k out
 keys:MP out
 conts:RH out
theorem VM:Grown [] []:=⟨ZeO,fun id h=>absurd rfl h,fun id n a h=>by simp at h⟩
theorem Grown.step{k out:List Ac.Act}(h:Grown k out)(hF:KH){me time:Int}{w:Wish}(hc:ES k me (B4 k me time w)=0):
  Grown (DJ k (B4 k me time w)).1 (out++[B4 k me time w]):=by
 have ha:=Ziv hc;have hm:=ZdY h.inv h.keys hF ha;generalize B4 k me time w=a at *;simp only at hm
 obtain⟨h1,h2⟩:=hm;refine⟨h.inv.add ha,Zex h.inv h.keys hF h1 ?_,Zg0 h.inv h.conts ?_⟩
 ·rcases h2 with⟨a1,a2,a3⟩|⟨a1,a2,a3,a4⟩
  ·exact .inl ⟨a1,a2,a3⟩
  ·exact .inr ⟨a1,a2,a4⟩
 ·rcases h2 with⟨a1,a2,a3⟩|⟨a1,a2,a3,a4⟩
  ·exact Zg2 a2
  ·exact a3
theorem QD(hF:KH):∀(l:List Wish) (i:Int) (k out:List Ac.Act),Grown k out → ∃K,Grown K (FB i l k out)
 |[],_,k,out,h=>⟨k,h⟩
 | w::l,i,k,out,h=>by
  unfold FB;simp only
  split
  ·rename_i hc
   exact QD hF l _ _ _ (h.step hF hc)
  ·exact QD hF l _ _ _ h
end Tp
end
end Go.Proofs.YtipfggegddlgdaaGreatDoor
