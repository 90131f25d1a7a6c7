import Derived.Test.YtipfggegddlgdaaGreatDoorKw24
set_option linter.unusedSectionVars false
set_option linter.unusedVariables false
set_option linter.unusedSimpArgs false
namespace Go.Proofs.YtipfggegddlgdaaGreatDoor
section
namespace Pe
open Tryz
open Go Go.RowKit Co Sg Ac It Sl Tp
set_option maxRecDepth 100000
set_option maxHeartbeats 8000000
theorem Nb(n:Nat)(h:n<4):AC prog 42 [.it .i64 (n:Int)] [] (E9 (Dw n)) []:=by
 have k1:=G5 (n:Int) 4 (by omega) (by decide)
 have hp:AL (n:Int) 4=(n:Int):=by
  have :=Ke (n:Int) (m:=4) (by decide)
  show pickN47 (n:Int) 4=n
  unfold pickN47;rw[if_neg (by rw[Int.tmod_eq_emod_of_nonneg (by omega)];omega),Int.tmod_eq_emod_of_nonneg (by omega)]
  omega
 rw[hp]at k1;have k2:=TE (Nj n) (by match n with |0=>decide|1=>decide|2=>decide|n+3=>exact(by decide:([115,51]:By).length≤100000000))
 change AC _ _ _ _ (E9 (Dw n)) _ at k2;have hg:([AV.st [115,48],.st [115,49],.st [115,50],.st [115,51]]:List AV)[n]? = some (.st (Nj n)):=by
  match n,h with
  |0,_=>rfl
  |1,_=>rfl
  |2,_=>rfl
  |3,_=>rfl
 have hn4:(n:Int)<4:=by omega
 generalize Dw n=k at *;generalize Nj n=s at *;refine Ah [37,69] [] func42 ?_;refine run ?_;refine cp k1 ?_;refine Ab (an @hg @hn4) ?_;refine cp k2 ?_;refine run ?_;exact Ad
theorem Pd:AC prog 17 [] [] (AP BH) []:=by
 have k0:=Nb 0 (by decide)
 have k1:=Nb 1 (by decide)
 have k2:=Nb 2 (by decide)
 have k3:=Nb 3 (by decide)
 show AC _ _ _ _ (.sl .ro [.it .i64 (Dw 0).pub,.it .i64 (Dw 1).pub,.it .i64 (Dw 2).pub,.it .i64 (Dw 3).pub]) _
 generalize Dw 0=a at *;generalize Dw 1=b at *;generalize Dw 2=c at *;generalize Dw 3=d at *;change AC _ _ [.it .i64 0] _ _ _ at k0;change AC _ _ [.it .i64 1] _ _ _ at k1;change AC _ _ [.it .i64 2] _ _ _ at k2;change AC _ _ [.it .i64 3] _ _ _ at k3;refine Ah [42] [] func17 ?_;refine run ?_;refine cp k0 ?_;refine run ?_;refine cp k1 ?_;refine run ?_;refine cp k2 ?_;refine run ?_;refine cp k3 ?_;refine run ?_;exact Au
theorem Sv(l:List Wish):AK 6 (l.map En)=true:=BG 6 En (fun _=>rfl) _
theorem ZhQ(l:List Wish)(most:Int)(hl:l.length≤140737488355328):AC prog 5 [.sl .ro (l.map En),.it .i64 most] [] (.bo (decide ((l.length:Int)≤most)&&l.all fun w=>decide (w.txt.length≤200))) []:=by
 have hsz:=Sv l;obtain⟨q,hq⟩:∃q,(decide ((l.length:Int)≤most)&&l.all fun w=>decide (w.txt.length≤200))=q:=⟨_,rfl⟩
 rw[hq];refine Ah [] [] func5 ?_;by_cases h:(l.length:Int)>most
 ·obtain rfl:q=false:=by rw[←hq,decide_eq_false (by omega),Bool.false_and]
  refine Ab @h ?_;exact Ad
 rw[decide_eq_true (by omega),Bool.true_and]at hq
 refine Ab @h ?_;refine AN (fun m e S=>e 0=.sl .ro (l.map En)∧S=[] ∧ ∃k:Nat,e 5=.it .i64 (k:Int)∧(∀(j:Nat) (w:Wish),j<k→l[j]? = some w→w.txt.length≤200)∧k≤l.length∧m=l.length-k) l.length ⟨Aa,rfl,0,Aa,fun j w h=>absurd h (Nat.not_lt_zero _),by omega,rfl⟩ ?_
 rintro m e S ⟨s0,rfl,k,s5,hall,hk,rfl⟩
 by_cases hlt:k<l.length
 ·have hg:l[k]? = some l[k]:=List.getElem?_eq_getElem hlt
  have hlt':(k:Int)<(l.length:Int):=by omega
  have w1:=AT (k:=k) (by omega)
  have hin:=List.getElem_mem hlt;generalize l[k]=w at *;by_cases hw:(w.txt.length:Int)>200
  ·obtain rfl:q=false:=by
    rw[←hq,List.all_eq_false];exact⟨w,hin,by simp;omega⟩
   refine Ab (A6 @s0 @s5 @hlt' @hg @hsz @hw) ?_;exact Ad
  ·refine Ab (A7 @s0 @s5 @hlt' @hg @hsz @hw @w1) ?_
   exact Aj (l.length-(k+1)) (by omega) ⟨Aa,rfl,k+1,Aa,(fun j w' hj hp=>by
    by_cases ej:j=k
    ·subst ej;rw[hg]at hp;cases hp;omega
    ·exact hall j w' (by omega) hp),by omega,rfl⟩
 ·obtain rfl:k=l.length:=by omega
  obtain rfl:q=true:=by
   rw[←hq,List.all_eq_true];intro w hw;obtain⟨j,hj⟩:=List.mem_iff_getElem?.1 hw;exact decide_eq_true (hall j w (List.getElem?_eq_some_iff.1 hj).1 hj)
  have hlt':¬(l.length:Int)<(l.length:Int):=by omega
  refine Ab (A3 @s0 @s5 @hlt') ?_;exact Ad
theorem ZaN(ps:List Int)(l:List Ac.Act)(w:Wish)(hl:l.length≤26)(hr:Bg l)(hw:Wz w):AC prog 24 [DX ps l,En w] [] (.it .i64 (Eh l w)) []:=by
 have k1:=Iv w.who hw.who;have k2:=OD ps l (AE w.who) (by omega) hr
 have k3:=G5 w.whom 3 hw.whom (by decide)
 obtain⟨hok,_,_⟩:=NV hr (AE w.who);unfold Eh;generalize Bc l (AE w.who)=c at *;generalize AE w.who=id at *;generalize AL w.whom 3=pk at *;have hck:=hok.klen;have hszk:=GK c.keys;by_cases h0:c.keys=[]
 ·rw[if_pos h0]
  have hkl:c.keys.length=0:=by rw[h0];rfl
  have q0:((c.keys.length:Int)==0)=true:=beq_iff_eq.2 (by omega)
  refine Ah [11,56,37] [] func24 ?_;refine run ?_;refine cp k1 ?_;refine run ?_;refine cp k2 ?_;refine Ab @q0 ?_;refine cp k3 ?_;refine run ?_;exact Ad
 ·rw[if_neg h0]
  have hkl:0<c.keys.length:=List.length_pos_iff.2 h0;have q0:((c.keys.length:Int)==0)=false:=beq_eq_false_iff_ne.2 (by omega)
  have hlk:=N8 h0;have w0:IntKind.i64.wrap ((c.keys.length:Int)-1)=((c.keys.length-1:Nat):Int):=by rw[wrap64 (by omega) (by omega)];omega
  have hkb:((c.keys.length-1:Nat):Int)<(c.keys.length:Int):=by omega
  generalize BM c=lk at *;refine Ah [11,56,37] [] func24 ?_;refine run ?_;refine cp k1 ?_;refine run ?_;refine cp k2 ?_;refine Ab (A5 @q0 @hlk @hszk @w0 @hkb) ?_;exact Ad
theorem Zhl{k:List Ac.Act}{me:Int}{a:Ac.Act}(h:ES k me a=0):Ac.right a=true:=by
 cases hr:Ac.right a with
 |true=>rfl
 |false=>
  unfold ES at h;simp[hr]at h
theorem VN(i:Int)(w:Wish)(l:List Wish)(k out:List Ac.Act):FB i (w::l) k out=if ES k (Eh k w) (B4 k (Eh k w) i w)=0 then FB (i+1) l (DJ k (B4 k (Eh k w) i w)).1 (out++[B4 k (Eh k w) i w])else FB (i+1) l k out:=rfl
theorem Zfk(ws:List Wish)(hl:ws.length≤24)(hw:∀w∈ws,Wz w):AC prog 8 [.sl .ro (ws.map En)] [] (.sl .ro ((FB 0 ws [] []).map Ba)) []:=by
 have hszw:=Sv ws;have kp:=Pd;have kn:=Zep BH;have hpl:BH.length≤1000000:=by decide
 generalize BH=ps at *;refine Ah [17,23,24,25,26,27,28] [] func8 ?_;refine run ?_;refine cp kp ?_;refine run ?_;refine cp kn ?_;refine run ?_;refine Cq (fun m e S=>e 0=.sl .ro (ws.map En)∧e 3=.ptr 0 0 ∧ ∃(i:Nat) (k out:List Ac.Act) (T:Ae),e 5=.it .i64 (i:Int)∧e 4=.sl (.own 1) (out.map Ba)∧S=.cells [AP ps,.sl .ro (k.map Ba)]::.buf out.length 63 49::T∧FB 0 ws [] []=FB (i:Int) (ws.drop i) k out∧Bg k∧k.length≤i∧out.length≤i∧i≤ws.length∧m=ws.length-i) ws.length _ _ (Ao.reserve 0 4 (es:=[]) (by rfl) 63 49)
  ⟨Aa,Aa,0,[],[],[],Aa,Aa,rfl,rfl,(fun a h=>nomatch h),by simp,by simp,by omega,rfl⟩ ?_
 rintro m e S ⟨s0,s3,i,k,out,T,s5,s4,rfl,hgr,hrk,hkl,hol,hi,rfl⟩
 have hsa:=EL out;have hT1:∀y:SObj,(T++[y])[T.length]? = some y:=fun y=>by simp
 have hT2:∀y z:SObj,(T++[y]).set T.length z=T++[z]:=fun y z=>by simp
 by_cases hlt:i<ws.length
 ·have hg:ws[i]? = some ws[i]:=List.getElem?_eq_getElem hlt
  have hdr:ws.drop i=ws[i]::ws.drop (i+1):=List.drop_eq_getElem_cons hlt;have hlt':(i:Int)<(ws.length:Int):=by omega
  have w1:=AT (k:=i) (by omega)
  have hwz:=hw ws[i] (List.getElem_mem hlt);rw[hdr,VN]at hgr;generalize ws[i]=w at *;have k1:=ZaN ps k w (by omega) hrk hwz
  have k2:=Zd2 ps k (Eh k w) (i:Int) w (by omega) hrk hwz
  have hsz:=ZdZ k (Eh k w) (i:Int) w;have k3:=Zhm ps k (Eh k w) (B4 k (Eh k w) (i:Int) w) (by omega) hrk hsz
  have hcr:=Zhl (k:=k) (me:=Eh k w) (a:=B4 k (Eh k w) (i:Int) w);generalize B4 k (Eh k w) (i:Int) w=a at *;generalize Eh k w=me at *;have k4:=P8 a;by_cases hc:ES k me a=0
  ·rw[if_pos hc]at hgr
   have hra:=hcr hc;have k5:=ZeG ps k a (by omega) hrk hra
   have hrk':=Zih hrk hra;have hkl':=Zik k a;rw[hc]at k3;have q0:((0:Int)==0)=true:=rfl;generalize DJ k a=r at *;obtain⟨k',b⟩:=r;simp only at hgr hrk' hkl' k5
   refine Ab (A7 @s0 @s3 @s5 @s4 @hlt' @hg @hszw) ?_;refine cp k1 ?_;refine Ab (A7 @s0 @s3 @s5 @s4 @hlt' @hg @hszw) ?_;refine cp k2 ?_;refine Ab (A6 @s0 @s3 @s5 @s4 @hT1 @hT2) ?_;refine cp k3 ?_;refine Ab (A7 @s0 @s3 @s5 @s4 @hT1 @hT2 @q0) ?_;refine cp k4 ?_;refine Ab (A7 @s0 @s3 @s5 @s4 @hT1 @hT2 @hsa) ?_;refine cp k4 ?_;refine Ab (A6 @s0 @s3 @s5 @s4 @hT1 @hT2) ?_;refine cp k5 ?_;refine Ab (A5 @s0 @s3 @s5 @s4 @w1) ?_;exact Aj (ws.length-(i+1)) (by omega) ⟨Aa,Aa,i+1,k',out++[a],_,Aa,by rw[List.map_append];exact Aa,by rw[List.length_append];rfl,hgr,hrk',by omega,by rw[List.length_append,List.length_singleton];omega,by omega,rfl⟩
  ·rw[if_neg hc]at hgr
   have q0:(ES k me a==0)=false:=beq_eq_false_iff_ne.2 hc;generalize ES k me a=ck at *;refine Ab (A7 @s0 @s3 @s5 @s4 @hlt' @hg @hszw) ?_;refine cp k1 ?_;refine Ab (A7 @s0 @s3 @s5 @s4 @hlt' @hg @hszw) ?_;refine cp k2 ?_;refine Ab (A6 @s0 @s3 @s5 @s4 @hT1 @hT2) ?_;refine cp k3 ?_;refine Ab (A8 @s0 @s3 @s5 @s4 @hT1 @hT2 @q0 @w1) ?_;exact Aj (ws.length-(i+1)) (by omega) ⟨Aa,Aa,i+1,k,out,_,Aa,Aa,rfl,hgr,hrk,by omega,by omega,by omega,rfl⟩
 ·obtain rfl:i=ws.length:=by omega
  rw[List.drop_length]at hgr;have hgr:FB 0 ws [] []=out:=hgr;have hlt':¬(ws.length:Int)<(ws.length:Int):=by omega
  rw[hgr];refine Ab (A5 @s0 @s3 @s5 @s4 @hlt') ?_;exact Au
end Pe
end
section
namespace Pe
open Tryz
open Go Go.RowKit Co Sg Ac It Sl Tp
set_option maxRecDepth 100000
set_option maxHeartbeats 8000000
theorem Zhc(l:List Int)(hl:l.length≤1000000):AC prog 41 [AP l] [] (AP l) []:=by
 cases l with
 | nil=>
  refine AC.empties fun A c=>?_
  refine Ar [] [] func41 ?_;cases A with
  |none=>
   refine run ?_;exact Au
  |some A=>
   refine run ?_;exact Au
 |cons x l=>
  have hs1:AK 1 ((x::l).map (AV.it .i64))=true:=BG 1 (AV.it .i64) (fun _=>rfl) _
  have hl':l.length≤1000000:=by simp only[List.length_cons]at hl;omega
  show AC _ _ [.sl .ro ((x::l).map (AV.it .i64))] _ (.sl .ro ((x::l).map (AV.it .i64))) _
  simp only[List.map_cons]at hs1 ⊢;refine Ar [] [] func41 ?_;refine Ab @hs1 ?_;exact Au
theorem Uw(l:List Int)(hl:l.length≤1000000):AC prog 16 [AP l] [] (DX l []) []:=by
 have k:=Zhc l hl;refine Ah [41] [] func16 ?_;refine run ?_;refine cp k ?_;refine run ?_;exact Au
theorem Zfd(l:By)(hs:l.length≤70368744177664):AC prog 109 [.st l] [] (.st (Sm.hex l)) []:=by
 refine AC.ofBelow (by kernel_rfl) fun w g cargs ht hargs=>?_
 rw[LX hargs];refine(Zfc ⟨l.toArray⟩ w (by simp[ByteArray.size];omega)).mono ?_
 rintro r w' ⟨rfl,hb⟩
 refine⟨_,rfl,fun g'=>?_,hb⟩
 exact .st g' _
theorem Ze7(n:Int)(h:-9223372036854775808≤n∧n≤9223372036854775807):AC prog 50 [.it .i64 n] [] (.st (CL n)) []:=by
 have k1:=EY [97,99,116,111,114] (by simp)
 have k2:=DU n (by omega) (by omega)
 have hnl:=AI n (by omega)
 have htl:(text [97,99,116,111,114]).length≤20:=by decide
 have k3:=Px (text [97,99,116,111,114]++Ai n) (by rw[List.length_append];omega)
 have hsl:=show(Sm.sha (text [97,99,116,111,114]++Ai n)).length=32 from rfl
 have k4:=Zfd (Sm.sha (text [97,99,116,111,114]++Ai n)) (by omega)
 have hhl:=VB (Sm.sha (text [97,99,116,111,114]++Ai n));unfold CL;generalize text [97,99,116,111,114]=x at *;generalize Ai n=y at *;generalize Sm.sha (x++y)=z at *;generalize Sm.hex z=u at *;have hb16:16≤u.length:=by omega
 refine Ah [110,111,46,109] [] func50 ?_;refine run ?_;refine cp k1 ?_;refine run ?_;refine cp k2 ?_;refine run ?_;refine cp k3 ?_;refine run ?_;refine cp k4 ?_;refine Ab @hb16 ?_;exact Ad
end Pe
end
section
namespace Pe
open Tryz
open Go Go.RowKit Co Sg Ac It Sl Tp
set_option maxRecDepth 100000
set_option maxHeartbeats 4000000
abbrev EK(ps:List Int)(l:List It.Item):AV:=.agg [AP ps,.sl .ro (l.map Be)]
theorem Ji(l:List It.Item):AK 49 (l.map Be)=true:=BG 49 Be (fun _=>rfl) _
def Hd(a b:By):Bool:=!(Op.bytesLess a b||a==b)
def CG:List It.Item→By→Nat
 |[],_=>0
 |x::l,d=>if Hd (It.digest x) d=true then 0 else CG l d+1
theorem PX:∀(l:List It.Item) (d:By),CG l d≤l.length
 |[],_=>Nat.le_refl _
 |x::l,d=>by
  unfold CG;have :=PX l d;rw[List.length_cons];split<;>omega
def FY(l:List It.Item)(d:By):Bool:=l.any fun x=>It.digest x==d
def C8(ps:List Int)(l:List It.Item)(it:It.Item):List It.Item×Bool:=
 if(It.right it&&It.signed ps it)=true then
  if FY l (It.digest it)=true then(l,false)else(l.take (CG l (It.digest it))++it::l.drop (CG l (It.digest it)),true)
 else(l,false)
def Rm(l:List It.Item)(d:By)(k:Nat):Nat:=if CG l d<k then CG l d else l.length
theorem T9:∀(l:List It.Item) (d:By) (k:Nat) (h:k<l.length),(k<CG l d→Hd (It.digest l[k]) d=false)∧(CG l d=k→Hd (It.digest l[k]) d=true)
 |x::l,d,0,h=>by
  simp only[List.getElem_cons_zero];unfold CG;cases hg:Hd (It.digest x) d with
  |true=>simp
  |false=>simp
 | x::l,d,k+1,h=>by
  have ih:=T9 l d k (by simpa using h)
  simp only[List.getElem_cons_succ];unfold CG;cases hg:Hd (It.digest x) d with
  |true=>simp
  |false=>
   simp only[Bool.false_eq_true,if_false];exact⟨fun h=>ih.1 (by omega),fun h=>ih.2 (by omega)⟩
theorem YH(ps:List Int)(l:List It.Item)(it:It.Item)(hps:∀p∈ps,-9223372036854775808≤p∧p≤9223372036854775807)(hl:l.length≤1000)(hz:∀x∈l,Iz x)(hi:Iz it):
  AC prog 15 [EK ps l,Be it] [] (.tup [EK ps (C8 ps l it).1,.bo (C8 ps l it).2]) []:=by
 have k1:=LD it hi;have k2:=Zbo ps it hi hps;have k3:=Ku it hi;have hsz:=Ji l;unfold C8;cases hr:It.right it with
 |false=>
  rw[hr]at k1;rw[Bool.false_and,if_neg (by decide)]
  refine Ah [39,40,19] [] func15 ?_;refine run ?_;refine cp k1 ?_;refine run ?_;exact Ad
 |true=>
 rw[hr]at k1;rw[Bool.true_and];cases hg:It.signed ps it with
 |false=>
  rw[hg]at k2;rw[if_neg (by decide)]
  refine Ah [39,40,19] [] func15 ?_;refine run ?_;refine cp k1 ?_;refine run ?_;refine cp k2 ?_;refine run ?_;exact Ad
 |true=>
 rw[hg]at k2;rw[if_pos rfl];generalize hV:AV.tup [EK ps (if FY l (It.digest it)=true then(l,false)else(l.take (CG l (It.digest it))++it::l.drop (CG l (It.digest it)),true)).1,.bo (if FY l (It.digest it)=true then(l,false)else(l.take (CG l (It.digest it))++it::l.drop (CG l (It.digest it)),true)).2]=V
 have hV1:FY l (It.digest it)=true→V=.tup [.agg [AP ps,.sl .ro (l.map Be)],.bo false]:=fun h=>by rw[←hV,if_pos h]
 have hV2:FY l (It.digest it)=false→V=.tup [.agg [AP ps,.sl .ro ((l.take (CG l (It.digest it))).map Be++[Be it]++(l.drop (CG l (It.digest it))).map Be)],.bo true]:=fun h=>by
  rw[←hV,if_neg (by rw[h];decide)]
  show AV.tup [.agg [AP ps,.sl .ro (List.map Be (_++it::_))],.bo true]=_
  rw[List.map_append,List.map_cons,List.append_assoc];rfl
 clear hV;have hdg:∀x∈l,AC prog 19 [Be x] [] (.st (It.digest x)) []:=fun x hx=>Ku x (hz x hx)
 have hple:=PX l (It.digest it);have hln:(l.map Be).length=l.length:=List.length_map _;have hpg:=T9 l (It.digest it);have hat:∀k,Rm l (It.digest it) k=if CG l (It.digest it)<k then CG l (It.digest it)else l.length:=fun _=>rfl
 have hend:FY l (It.digest it)=false→Rm l (It.digest it) l.length=CG l (It.digest it):=fun _=>by
  rw[hat];split<;>omega
 have hhas:∀k (h:k<l.length),(It.digest l[k]==It.digest it)=true→FY l (It.digest it)=true:=fun k h e=>List.any_eq_true.2 ⟨l[k],List.getElem_mem h,e⟩
 have hnone:(∀k (h:k<l.length),(It.digest l[k]==It.digest it)=false)→FY l (It.digest it)=false:=fun h=>by
  cases hx:FY l (It.digest it)with
  |false=>rfl
  |true=>
   obtain⟨x,hx,e⟩:=List.any_eq_true.1 hx;obtain⟨k,hk,rfl⟩:=List.mem_iff_getElem.1 hx;rw[h k hk]at e;cases e
 have hszt:=Ji (l.take (CG l (It.digest it)));have hszd:=Ji (l.drop (CG l (It.digest it)));generalize hat0:Rm l (It.digest it)=at0 at *;generalize hh:FY l (It.digest it)=hb at *;generalize CG l (It.digest it)=P at *;generalize It.digest it=d at *;refine Ah [39,40,19] [] func15 ?_;refine run ?_;refine cp k1 ?_;refine run ?_;refine cp k2 ?_;refine run ?_;refine cp k3 ?_;refine run ?_;refine Cq (fun m e S=>e 2=.ptr 0 0∧e 3=.ptr 1 0∧e 4=.ptr 2 0∧e 6=.st d∧e 29=.sl .ro (l.map Be)∧e 30=.it .i64 (l.length:Int) ∧ ∃(k:Nat) (T:Ae),S=.cells [AP ps,.sl .ro (l.map Be)]::.cells (G7 it)::.cells [.sl .full [],.sl .full []]::T∧e 31=.it .i64 (k:Int)∧e 7=.it .i64 ((at0 k:Nat):Int)∧(∀j (h:j<l.length),j<k→(It.digest l[j]==d)=false)∧k≤l.length∧m=l.length-k) l.length _ _ (Ao.refl _ _ _)
  ⟨Aa,Aa,Aa,Aa,Aa,Aa,0,[],rfl,Aa,by rw[hat,if_neg (Nat.not_lt_zero _)];exact Aa,fun j _ h=>absurd h (Nat.not_lt_zero _),by omega,rfl⟩ ?_
 rintro m e S ⟨s2,s3,s4,s6,s29,s30,k,T,rfl,s31,s7,hne,hk,rfl⟩
 rw[Db s4,Db s3,Db s2];have hT1:∀y:SObj,(T++[y])[T.length]? = some y:=fun y=>by simp
 have hT2:∀y z:SObj,(T++[y]).set T.length z=T++[z]:=fun y z=>by simp
 by_cases hlt:k<l.length
 rotate_left
 ·obtain rfl:k=l.length:=by omega
  have hb0:hb=false:=hnone fun j h=>hne j h h
  subst hb0;have he:=hend rfl;rw[he]at s7;have hlt':¬(l.length:Int)<(l.length:Int):=by omega
  have w1:IntKind.i64.wrap ((l.length:Int)+1)=((l.length+1:Nat):Int):=by rw[wrap64 (by omega) (by omega)];omega
  rw[hV2 rfl];refine Ab (an @s2 (an @s3 (an @s4 (an @s6 (an @s29 (An @s30 @s31 @s7 @hlt' @w1 @hsz @hszt @hszd @hln @hT1 @hT2)))))) ?_;exact Au
 have hg:l[k]? = some l[k]:=List.getElem?_eq_getElem hlt
 have hlt':(k:Int)<(l.length:Int):=by omega
 have w1:=AT (k:=k) (by omega)
 have kd:=hdg l[k] (List.getElem_mem hlt);have hp:=hpg k hlt;have hhk:=hhas k hlt;have hnk:(It.digest l[k]==d)=false → ∀j (h:j<l.length),j<k+1→(It.digest l[j]==d)=false:=fun h0 j h h'=>by
  by_cases hj:j=k
  ·subst hj;exact h0
  ·exact hne j h (by omega)
 have hak:(k<P→at0 (k+1)=l.length∧at0 k=l.length)∧(P=k→at0 (k+1)=k∧at0 k=l.length)∧(P<k→at0 (k+1)=P∧at0 k=P):=by
  refine⟨fun h=>⟨by rw[hat,if_neg (by omega)],by rw[hat,if_neg (by omega)]⟩,fun h=>⟨by rw[hat,if_pos (by omega),h],by rw[hat,if_neg (by omega)]⟩,fun h=>⟨by rw[hat,if_pos (by omega)],by rw[hat,if_pos h]⟩⟩
 generalize l[k]=x at *;generalize It.digest x=y at *;refine Ab (an @s2 (an @s3 (An @s4 @s6 @s29 @s30 @s31 @s7 @hlt' @hg @hsz @hT1 @hT2))) ?_;refine cp kd ?_;cases he:(y==d)with
 |true=>
  have hb1:=hhk he;subst hb1;rw[hV1 rfl];refine Ab (An @s2 @s3 @s4 @s6 @s29 @s30 @s31 @s7 @he @hT1 @hT2) ?_;exact Au
 | false=>
  have hnk:=hnk he;rcases Nat.lt_trichotomy k P with h|h|h
  ·have hgt:=hp.1 h
   unfold Hd at hgt;rw[he,Bool.or_false]at hgt;obtain⟨a1,a2⟩:=hak.1 h;rw[a2]at s7;refine Ab (an @s2 (an @s3 (An @s4 @s6 @s29 @s30 @s31 @s7 @he @hgt @w1 @hT1 @hT2))) ?_;exact Aj (l.length-(k+1)) (by omega) ⟨Aa,Aa,Aa,Aa,Aa,Aa,k+1,_,rfl,Aa,by rw[a1];exact Aa,hnk,by omega,rfl⟩
  ·have hgt:=hp.2 h.symm
   unfold Hd at hgt;rw[he,Bool.or_false]at hgt;obtain⟨a1,a2⟩:=hak.2.1 h.symm;rw[a2]at s7;refine Ab (an @s2 (an @s3 (An @s4 @s6 @s29 @s30 @s31 @s7 @he @hgt @w1 @hT1 @hT2))) ?_;exact Aj (l.length-(k+1)) (by omega) ⟨Aa,Aa,Aa,Aa,Aa,Aa,k+1,_,rfl,Aa,by rw[a1];exact Aa,hnk,by omega,rfl⟩
  ·obtain⟨a1,a2⟩:=hak.2.2 h
   rw[a2]at s7;have hne':((P:Nat):Int)≠(l.length:Int):=by omega
   cases hgt:(!(Op.bytesLess y d))with
   |true=>
    refine Ab (an @s2 (an @s3 (an @s4 (An @s6 @s29 @s30 @s31 @s7 @he @hgt @w1 @hne' @hT1 @hT2)))) ?_;exact Aj (l.length-(k+1)) (by omega) ⟨Aa,Aa,Aa,Aa,Aa,Aa,k+1,_,rfl,Aa,by rw[a1];exact Aa,hnk,by omega,rfl⟩
   |false=>
    refine Ab (an @s2 (an @s3 (An @s4 @s6 @s29 @s30 @s31 @s7 @he @hgt @w1 @hT1 @hT2))) ?_;exact Aj (l.length-(k+1)) (by omega) ⟨Aa,Aa,Aa,Aa,Aa,Aa,k+1,_,rfl,Aa,by rw[a1];exact Aa,hnk,by omega,rfl⟩
end Pe
end
section
namespace Pe
open Tryz
open Go Go.RowKit Co Sg Ac It Sl Tp
set_option maxRecDepth 100000
set_option maxHeartbeats 8000000
abbrev ZfD(a:Ac.Act)(d:By):AV:=.agg [.it .i64 a.seq,.st d,.st a.author,.it .i64 a.seq,.st a.prev,.it .i64 a.kind,.it .i64 a.time,.st a.object,.st a.target,.it .i64 a.scope,.st a.group,Av a.to,.st a.text,.st a.body.nonce,.st a.body.data,.st a.body.tag,.it .i64 a.epoch,.sl .ro (a.wraps.map Bj),.it .i64 a.n,.it .i64 a.m,.it .i64 a.sig.e,.it .i64 a.sig.s]
theorem Zhf(it:It.Item)(id:By)(hk:(it.kind==1)=false):AC prog 274 [Be it,.ptr 0 0] [.cells [.st id]] (.tup [Mu it.claim,.it .i64 0,.bo false]) [.cells [.st id]]:=by
 refine AC.hw 18 func274 rfl (by decide) (Nat.le_of_ble_eq_true rfl) rfl ?_
 refine HW.seq (HW.aw [] [] (by decide) (by kernel_rfl) ?_)
 refine AD ?_
 refine run ?_;refine HW.seq (HW.spec [] [] [0,1] [7,9,14,15] [] (by decide) (by decide +kernel) (by decide +kernel) ?_)
 refine AD ?_
 repeat (refine g4 (by rfl) ?_;(first|refine B6 ?_|refine a4 ?_);refine runf4 @hk ?_;(first|refine EN ?_|refine EM ?_))
 repeat (refine VW (by rfl) ?_)
 repeat (refine g4 (by rfl) ?_;(first|refine B6 ?_|refine a4 ?_);refine runf4 @hk ?_;(first|refine EN ?_|refine EM ?_))
 refine FD ?_
 refine HW.aw [] [] (by decide) (by kernel_rfl) ?_
 refine AD ?_
 refine run ?_;exact Ov
theorem ZeU(F:FuncId):AC prog 347 [.sl .ro [],.it .i64 0,.it .i64 0,.fn (.func F) [] []] [] (.tup []) []:=by
 refine AC.enter4 [102] [] [(6,([],[1000000],[]))] [] func347 rfl (by decide) (by decide) (Nat.le_of_ble_eq_true rfl) (by kernel_rfl) ?_;refine IN ?_
 refine run4 ?_
 refine Fz ?_
 refine run4 ?_
 exact Ad
theorem Zba(F:FuncId):AC prog 330 [.sl .ro [],.it .i64 0,.fn (.func F) [] []] [] (.tup []) []:=by
 have k:=ZeU F;refine Ah [347] [] func330 ?_;refine run ?_;refine Fz ?_
 refine run ?_;refine cp k ?_;refine run ?_;refine Fz ?_
 refine run ?_;exact Ad
theorem Zbj(F:FuncId):AC prog 313 [.sl .ro [],.fn (.func F) [] []] [] (.tup []) []:=by
 have k:=Zba F;refine Ah [330] [] func313 ?_;refine run ?_;refine cp k ?_;refine run ?_;exact Ad
theorem ZcL:AC prog 189 [.it .i64 4] [] (.it .i64 3) []:=by
 refine Ah [] [] func189 ?_;refine run ?_;exact Ad
end Pe
end
section
namespace Pe
open Tryz
open Go Go.RowKit Co Sg Ac It Sl Tp
set_option maxRecDepth 100000
set_option maxHeartbeats 4000000
def Mt(a b:Int):Int:=if a<b then -1 else if a>b then 1 else 0
def Kv(a b:By):Int:=if Op.bytesLess a b=true then -1 else if Hd a b=true then 1 else 0
def NS(x y:Int):Int:=if x !=0 then x else y
theorem UC(n:Int):AC prog 270 [.it .i64 n] [] (.bo false) []:=by
 have h:(n !=n)=false:=Df rfl;refine Ah [] [] func270 ?_;refine Ab @h ?_;exact Ad
theorem UB(s:By):AC prog 179 [.st s] [] (.bo false) []:=by
 have h:(s==s)=true:=beq_self_eq_true _;refine Ah [] [] func179 ?_;refine Ab @h ?_;exact Ad
theorem Zha(a b:Int):AC prog 183 [.it .i64 a,.it .i64 b] [] (.it .i64 (Mt a b)) []:=by
 have k1:=UC a;have k2:=UC b;unfold Mt;refine Ah [270] [] func183 ?_;refine run ?_;refine cp k1 ?_;refine run ?_;refine cp k2 ?_;by_cases h1:a<b
 ·rw[if_pos h1]
  refine Ab @h1 ?_;exact Ad
 ·rw[if_neg h1]
  by_cases h2:a>b
  ·rw[if_pos h2]
   refine Ab (an @h1 @h2) ?_;exact Ad
  ·rw[if_neg h2]
   refine Ab (an @h1 @h2) ?_;exact Ad
theorem Zg9(a b:By):AC prog 184 [.st a,.st b] [] (.it .i64 (Kv a b)) []:=by
 have k1:=UB a;have k2:=UB b;unfold Kv Hd;refine Ah [179] [] func184 ?_;refine run ?_;refine cp k1 ?_;refine run ?_;refine cp k2 ?_;cases h1:Op.bytesLess a b with
 |true=>
  rw[if_pos rfl];refine Ab @h1 ?_;exact Ad
 | false=>
  rw[if_neg (by decide),Bool.false_or]
  cases h2:(!(a==b))with
  |true=>
   rw[if_pos rfl];refine Ab (an @h1 @h2) ?_;exact Ad
  |false=>
   rw[if_neg (by decide)]
   refine Ab (an @h1 @h2) ?_;exact Ad
theorem Zdo(x y:Int):AC prog 182 [.sl .ro [.it .i64 x,.it .i64 y]] [] (.it .i64 (NS x y)) []:=by
 unfold NS;by_cases hx:x=0
 ·subst hx
  by_cases hy:y=0
  ·subst hy
   refine Ah [] [] func182 ?_;refine run ?_;refine AN (fun m e S=>e 3=.it .i64 0∧e 6=.sl .ro [.it .i64 0,.it .i64 0]∧e 7=.it .i64 2∧S=[]∧m≤2∧e 8=.it .i64 ((2-m:Nat):Int)) 2 ⟨Aa,Aa,Aa,rfl,Nat.le_refl _,Aa⟩ ?_
   rintro m e S ⟨s3,s6,s7,rfl,hm,s8⟩
   have:m=0∨m=1∨m=2:=by omega
   rcases this with rfl|rfl|rfl
   ·have s8:e 8=.it .i64 2:=s8
    refine Ab (A4 @s3 @s6 @s7 @s8) ?_;exact Ad
   ·have s8:e 8=.it .i64 1:=s8
    refine Ab (A4 @s3 @s6 @s7 @s8) ?_;exact Aj 0 (by omega) ⟨Aa,Aa,Aa,rfl,by omega,Aa⟩
   ·have s8:e 8=.it .i64 0:=s8
    refine Ab (A4 @s3 @s6 @s7 @s8) ?_;exact Aj 1 (by omega) ⟨Aa,Aa,Aa,rfl,by omega,Aa⟩
  ·have hy':(y !=0)=true:=C6 hy
   refine Ah [] [] func182 ?_;refine run ?_;refine Ic fun K hK=>?_
   refine run ?_;refine hK _ _ ?_
   refine Ab @hy' ?_;exact Ad
 ·have hx':(x !=0)=true:=C6 hx
  rw[if_pos hx'];refine Ah [] [] func182 ?_;refine run ?_;refine Fz ?_
  refine Ab @hx' ?_;exact Ad
def F3(r r':Int)(d d':By):Int:=NS (Mt r r') (Kv d d')
end Pe
end
section
namespace Sr
open Tryz
section
variable {α:Type _} {lt:α→α→Bool}
abbrev Up(lt:α→α→Bool)(l:List α):Prop:=l.Pairwise fun a b=>lt a b=true
structure Strict(lt:α→α→Bool):Prop where
 irr:∀a,lt a a=false
 trans:∀{a b c},lt a b=true→lt b c=true→lt a c=true
structure Tot(lt:α→α→Bool)(l:List α):Prop where
 nodup:l.Nodup
 tri:∀x∈l,∀y∈l,lt x y=false→x=y∨lt y x=true
theorem Tot.perm{l m:List α}(h:Tot lt l)(p:l.Perm m):Tot lt m:=
 ⟨p.nodup_iff.1 h.nodup,fun x hx y hy=>h.tri x (p.mem_iff.2 hx) y (p.mem_iff.2 hy)⟩
theorem Tot.sub{l m:List α}(h:Tot lt l)(p:m.Sublist l):Tot lt m:=
 ⟨h.nodup.sublist p,fun x hx y hy=>h.tri x (p.subset hx) y (p.subset hy)⟩
theorem Sx(h:Strict lt):∀{l m:List α},l.Perm m→Up lt l→Up lt m→l=m
 |[],m,hp,_,_=>(List.nil_perm.1 hp).symm
 | a ::l,m,hp,hl,hm=>by
  cases m with
  |nil=>exact absurd hp.symm (by simp)
  | cons b m=>
   have hl':=List.pairwise_cons.1 hl;have hm':=List.pairwise_cons.1 hm;have e:a=b:=by
    have h1:a∈b::m:=hp.mem_iff.1 (by simp)
    have h2:b∈a::l:=hp.mem_iff.2 (by simp)
    rcases List.mem_cons.1 h1 with h1|h1
    ·exact h1
    ·rcases List.mem_cons.1 h2 with h2|h2
     ·exact h2.symm
     ·have :=h.trans (hl'.1 b h2) (hm'.1 a h1)
      rw[h.irr]at this;cases this
   subst e;rw[Sx h ((List.perm_cons a).1 hp) hl'.2 hm'.2]
def Pn(M:List α)(i j:Nat)(x y:α):List α:=(M.set i y).set j x
theorem Nk(A B C:List α)(x y:α):Pn (A++x::(B++y::C)) A.length (A.length+(B.length+1)) x y=A++y::(B++x::C):=by
 unfold Pn;rw[List.set_append_right _ _ (Nat.le_refl _),Nat.sub_self,List.set_cons_zero,List.set_append_right _ _ (by omega),show A.length+(B.length+1)-A.length=B.length+1 by omega,List.set_cons_succ,List.set_append_right _ _ (Nat.le_refl _),Nat.sub_self,List.set_cons_zero]
theorem Mf(A C:List α)(x:α):(A++x::C)[A.length]? = some x:=by
 rw[List.getElem?_append_right (Nat.le_refl _),Nat.sub_self,List.getElem?_cons_zero]
theorem O9(h:Strict lt){U V:List α}{x:α}(hu:Up lt (U++V))(h1:∀W z,U=W++[z]→lt z x=true)(h2:∀y∈V,lt x y=true):Up lt (U++x::V):=by
 obtain⟨a1,a2,a3⟩:=List.pairwise_append.1 hu;have hx:∀y∈U,lt y x=true:=fun y hy=>by
  rcases List.eq_nil_or_concat U with rfl|⟨W,z,hW⟩
  ·simp at hy
  ·rw[List.concat_eq_append]at hW
   have hl:=h1 W z hW;subst hW;rcases List.mem_append.1 hy with hy|hy
   ·exact h.trans ((List.pairwise_append.1 a1).2.2 y hy z (by simp)) hl
   ·rw[List.mem_singleton.1 hy];exact hl
 refine List.pairwise_append.2 ⟨a1,List.pairwise_cons.2 ⟨h2,a2⟩,fun a ha b hb=>?_⟩
 rcases List.mem_cons.1 hb with rfl|hb
 ·exact hx a ha
 ·exact a3 a ha b hb
def AY(lt:α→α→Bool)(l:List α):List α:=l.mergeSort fun a b=>!lt b a
theorem GD(l:List α):(AY lt l).Perm l:=List.mergeSort_perm l _
theorem Gc(l:List α):(AY lt l).length=l.length:=(GD l).length_eq
theorem Zbc(h:Strict lt){l:List α}(hT:Tot lt l)(hn:∀a b c,lt b a=false→lt c b=false→lt c a=false)(ha:∀a b,lt a b=true→lt b a=false):Up lt (AY lt l):=by
 have h1:(AY lt l).Pairwise fun a b=>(!lt b a)=true:=List.pairwise_mergeSort (fun a b c h1 h2=>by
  simp only[Bool.not_eq_true']at *;exact hn a b c h1 h2) (fun a b=>by
  cases e:lt b a with
  |false=>simp
  |true=>simp[ha b a e]) l
 have hT':Tot lt (AY lt l):=hT.perm (GD l).symm;refine List.Pairwise.imp_of_mem (fun {a b} ma mb hab=>?_) (hT'.nodup.and h1)
 rcases hT'.tri b mb a ma (by simpa using hab.2)with e|e
 ·exact absurd e.symm hab.1
 ·exact e
theorem Zbe(h:Strict lt){l m:List α}(hp:m.Perm l)(hu:Up lt m)(hn:∀a b c,lt b a=false→lt c b=false→lt c a=false)(ha:∀a b,lt a b=true→lt b a=false):AY lt l=m:=by
 have h1:(AY lt l).Pairwise fun a b=>(!lt b a)=true:=List.pairwise_mergeSort (fun a b c h1 h2=>by
  simp only[Bool.not_eq_true']at *;exact hn a b c h1 h2) (fun a b=>by
  cases e:lt b a with
  |false=>simp
  |true=>simp[ha b a e]) l
 have hp':(AY lt l).Perm m:=(GD l).trans hp.symm;have hnd:(AY lt l).Nodup:=hp'.nodup_iff.2 (List.Pairwise.imp (fun {a b} hab e=>by subst e;rw[h.irr]at hab;cases hab) hu)
 have htri:∀x∈m,∀y∈m,x=y∨lt x y=true∨lt y x=true:=by
  clear h1 hp' hnd hp;induction m with
  |nil=>intro x hx;simp at hx
  |cons a m ih=>
   have hu':=List.pairwise_cons.1 hu;intro x hx y hy;rcases List.mem_cons.1 hx with ex|hx<;>rcases List.mem_cons.1 hy with ey|hy
   ·exact .inl (ex.trans ey.symm)
   ·exact .inr (.inl (by rw[ex];exact hu'.1 y hy))
   ·exact .inr (.inr (by rw[ey];exact hu'.1 x hx))
   ·exact ih hu'.2 x hx y hy
 refine Sx h hp' ?_ hu
 have h2:=hnd.and h1;refine List.Pairwise.imp_of_mem (fun {a b} ma mb hab=>?_) h2
 rcases htri a (hp'.mem_iff.1 ma) b (hp'.mem_iff.1 mb)with e|e|e
 ·exact absurd e hab.1
 ·exact e
 ·have :=hab.2;rw[e]at this;cases this
end
end Sr
end
section
namespace Pe
open Tryz
open Go Go.RowKit Co Sg Ac It Sl Tp Sr
set_option maxRecDepth 100000
structure Fo(T:Type) where
 rank:Int
 dig:By
 val:T
def As{T:Type}(p q:Fo T):Bool:=decide (F3 p.rank q.rank p.dig q.dig<0)
theorem Zhb(r r':Int)(d d':By):F3 r r' d d'<0↔r<r'∨(r=r'∧Op.bytesLess d d'=true):=by
 have hs:Kv d d'<0↔Op.bytesLess d d'=true:=by
  unfold Kv;cases Op.bytesLess d d' with
  |true=>simp
  |false=>
   rw[if_neg (by decide)]
   split<;>simp
 unfold F3 NS Mt;by_cases h1:r<r'
 ·rw[if_pos h1];simp[h1]
 ·rw[if_neg h1]
  by_cases h2:r>r'
  ·rw[if_pos h2];simp;omega
  ·rw[if_neg h2]
   have e:r=r':=by omega
   rw[show((0:Int) !=0)=false from rfl,if_neg (by decide),hs]
   simp[e]
theorem Jg{T:Type}(p q:Fo T):As p q=true↔p.rank<q.rank∨(p.rank=q.rank∧Op.bytesLess p.dig q.dig=true):=by
 unfold As;rw[decide_eq_true_eq,Zhb]
theorem Cw{T:Type}:Strict (As (T:=T)) where
 irr a:=by
  cases e:As a a with
  |false=>rfl
  |true=>
   rcases(Jg a a).1 e with h|⟨_,h⟩
   ·omega
   ·rw[Ri]at h;cases h
 trans {a b c} h1 h2:=by
  rw[Jg]at *;rcases h1 with h1|⟨h1,h1'⟩<;>rcases h2 with h2|⟨h2,h2'⟩
  ·exact .inl (by omega)
  ·exact .inl (by omega)
  ·exact .inl (by omega)
  ·exact .inr ⟨by omega,OK h1' h2'⟩
theorem Yq{T:Type}(a b:Fo T)(h:As a b=true):As b a=false:=by
 cases e:As b a with
 |false=>rfl
 |true=>have :=Cw.trans h e;rw[Cw.irr]at this;cases this
theorem UA{T:Type}(a b c:Fo T)(h1:As b a=false)(h2:As c b=false):As c a=false:=by
 cases e:As c a with
 |false=>rfl
 | true=>
  have n1:=fun h=>Bool.false_ne_true (h1.symm.trans ((Jg b a).2 h))
  have n2:=fun h=>Bool.false_ne_true (h2.symm.trans ((Jg c b).2 h))
  rcases(Jg c a).1 e with h|⟨h,h'⟩
  ·exfalso
   by_cases hb:c.rank<b.rank
   ·exact n2 (.inl hb)
   ·exact n1 (.inl (by omega))
  ·exfalso
   by_cases hb:c.rank<b.rank
   ·exact n2 (.inl hb)
   by_cases hb':b.rank<a.rank
   ·exact n1 (.inl hb')
   have e1:c.rank=b.rank:=by omega
   have e2:b.rank=a.rank:=by omega
   cases hd:Op.bytesLess c.dig b.dig with
   |true=>exact n2 (.inr ⟨e1,hd⟩)
   |false=>
    rcases OJ _ _ hd with e3|e3
    ·rw[e3]at h';exact n1 (.inr ⟨e2,h'⟩)
    ·exact n1 (.inr ⟨e2,OK e3 h'⟩)
theorem ZaI{T:Type}{l:List (Fo T)}(h:(l.map (·.dig)).Nodup):Tot As l:=by
 refine⟨List.Pairwise.imp (fun {a b} hab e=>hab (by rw[e])) (List.pairwise_map.1 h),fun x hx y hy hl=>?_⟩
 by_cases e:x.dig=y.dig
 ·exact .inl (Kg h hx hy e)
 ·refine .inr ((Jg y x).2 ?_)
  have n1:=fun h=>Bool.false_ne_true (hl.symm.trans ((Jg x y).2 h))
  by_cases h1:y.rank<x.rank
  ·exact .inl h1
  ·by_cases h2:x.rank<y.rank
   ·exact absurd (.inl h2) n1
   ·refine .inr ⟨by omega,?_⟩
    cases hd:Op.bytesLess x.dig y.dig with
    |true=>exact absurd (.inr ⟨by omega,hd⟩) n1
    |false=>
     rcases OJ _ _ hd with e'|e'
     ·exact absurd e' e
     ·exact e'
theorem GE{T:Type}{l m:List (Fo T)}(hp:m.Perm l)(hu:Up As m):AY As l=m:=Zbe Cw hp hu UA Yq
theorem JX{T:Type}{l:List (Fo T)}(h:Tot As l):Up As (AY As l):=Zbc Cw h UA Yq
section
variable {T:Type} (enc:T→List AV)
def Cz(p:Fo T):List AV:=.it .i64 p.rank::.st p.dig::enc p.val
def AA(M:List (Fo T)):List AV:=Ak (M.map fun p=>.agg (Cz enc p))
structure Enc(n:Nat):Prop where
 len:∀v,(enc v).length=n
 ok:∀v,(enc v).all (AV.o1 0)=true
variable {enc} {n:Nat}
theorem Enc.cel(h:Enc enc n)(p:Fo T):(Cz enc p).length=n+2:=by
 unfold Cz;rw[List.length_cons,List.length_cons,h.len]
theorem E2(h:Enc enc n)(M:List (Fo T)):(AA enc M).length=M.length*(n+2):=QK (fun p=>AV.agg (Cz enc p)) (n+2) (fun a=>h.cel a) M
theorem PF(M L:List (Fo T)):AA enc (M++L)=AA enc M++AA enc L:=by
 unfold AA;rw[List.map_append,Jq]
theorem TA(p:Fo T):AA enc [p]=Cz enc p:=by simp[AA,Ak,AV.cells]
theorem EH(h:Enc enc n)(M:List (Fo T))(k:Nat)(x:Fo T)(hx:M[k]? = some x):((AA enc M).drop (k*(n+2))).take (n+2)=Cz enc x:=by
 have hk:=(List.getElem?_eq_some_iff.1 hx).1
 have hsp:M=M.take k++([x]++M.drop (k+1)):=by
  rw[List.singleton_append,←(List.getElem?_eq_some_iff.1 hx).2,←List.drop_eq_getElem_cons hk,List.take_append_drop]
 have h1:=E2 h (M.take k);rw[List.length_take,Nat.min_eq_left (Nat.le_of_lt hk)]at h1;have h2:=h.cel x;rw[hsp,PF,PF,TA,List.drop_append_of_le_length (by omega),List.drop_of_length_le (by omega),List.nil_append,List.take_append_of_le_length (by omega),List.take_of_length_le (by omega)]
theorem H5(h:Enc enc n)(M:List (Fo T))(j:Nat)(x:Fo T)(hj:j<M.length):Bf (AA enc M) (j*(n+2)) (Cz enc x)=AA enc (M.set j x):=
 YS (fun p=>AV.agg (Cz enc p)) (n+2) (fun a=>h.cel a) x M j hj
theorem Enc.celok(h:Enc enc n)(p:Fo T):(Cz enc p).all (AV.o1 0)=true:=by
 unfold Cz;rw[List.all_cons,List.all_cons,h.ok];rfl
theorem Zcd(h:Enc enc n)(M:List (Fo T)):(AA enc M).all (AV.o1 0)=true:=Om (fun p=>AV.agg (Cz enc p)) (fun a=>h.celok a) M
theorem LC(h:Enc enc n)(M:List (Fo T))(ty:TypeId)(sz k:Nat):(SObj.row (AA enc M) ty sz).ok k=true:=
 List.all_eq_true.2 fun x hx=>Ef (List.all_eq_true.1 (Zcd h M) x hx) (Nat.zero_le k)
theorem Fv(h:Enc enc n)(M:List (Fo T))(ty:TypeId)(sz k:Nat):[SObj.row (AA enc M) ty sz].all (SObj.ok k)=true:=by
 rw[List.all_cons,LC h M];rfl
end
end Pe
end
section
namespace Pe
open Tryz
open Go Go.RowKit Co Sg Ac It Sl Tp Sr
set_option maxRecDepth 100000
set_option maxHeartbeats 4000000
def Az(a:Ac.Act):List AV:=[.st a.author,.it .i64 a.seq,.st a.prev,.it .i64 a.kind,.it .i64 a.time,.st a.object,.st a.target,.it .i64 a.scope,.st a.group,Av a.to,.st a.text,.st a.body.nonce,.st a.body.data,.st a.body.tag,.it .i64 a.epoch,.sl .ro (a.wraps.map Bj),.it .i64 a.n,.it .i64 a.m,.it .i64 a.sig.e,.it .i64 a.sig.s]
theorem Hz:Enc Az 20:=⟨fun _=>rfl,fun _=>rfl⟩
theorem N7(p q:Fo Ac.Act):AC prog 181 [.agg (Cz Az p),.agg (Cz Az q)] [] (.it .i64 (F3 p.rank q.rank p.dig q.dig)) []:=by
 obtain⟨r,d,a⟩:=p;obtain⟨r',d',b⟩:=q;have k1:=Zha r r';have k2:=Zg9 d d';have k3:=Zdo (Mt r r') (Kv d d');show AC _ _ [.agg [.it .i64 r,.st d,.st a.author,.it .i64 a.seq,.st a.prev,.it .i64 a.kind,.it .i64 a.time,.st a.object,.st a.target,.it .i64 a.scope,.st a.group,Av a.to,.st a.text,.st a.body.nonce,.st a.body.data,.st a.body.tag,.it .i64 a.epoch,.sl .ro (a.wraps.map Bj),.it .i64 a.n,.it .i64 a.m,.it .i64 a.sig.e,.it .i64 a.sig.s],.agg [.it .i64 r',.st d',.st b.author,.it .i64 b.seq,.st b.prev,.it .i64 b.kind,.it .i64 b.time,.st b.object,.st b.target,.it .i64 b.scope,.st b.group,Av b.to,.st b.text,.st b.body.nonce,.st b.body.data,.st b.body.tag,.it .i64 b.epoch,.sl .ro (b.wraps.map Bj),.it .i64 b.n,.it .i64 b.m,.it .i64 b.sig.e,.it .i64 b.sig.s]] _ _ _
 refine Ah [183,184,182] [] func181 ?_;refine run ?_;refine cp k1 ?_;refine run ?_;refine cp k2 ?_;refine run ?_;refine cp k3 ?_;refine run ?_;exact Ad
theorem ZeV(n:Nat)(P X Q:List (Fo Ac.Act))(hn:P.length+X.length+Q.length=n)(hl:n≤1000)(hT:Tot As X):
  AC prog 309 [.wr 0 n none,.it .i64 (P.length:Int),.it .i64 ((P.length+X.length:Nat):Int),.fn (.func 181) [] []]
   [.row (AA Az (P++X++Q)) 218 22] (.tup []) [.row (AA Az (P++AY As X++Q)) 218 22]:=by
 have henc:=Hz;refine AC.enter2 [1000022] [] func309 rfl (by decide) (by decide) (Nat.le_of_ble_eq_true rfl) (by kernel_rfl) ?_
 refine AD ?_
 have w0:IntKind.i64.wrap ((P.length:Int)+1)=((P.length+1:Nat):Int):=by rw[wrap64 (by omega) (by omega)];omega
 cases X with
 |nil=>
  have hx:¬((P.length+1:Nat):Int)<((P.length+([]:List (Fo Ac.Act)).length:Nat):Int):=by simp only[List.length_nil];omega
  have hs:AY As ([]:List (Fo Ac.Act))=[]:=GE (.refl _) .nil;rw[hs];refine Ab @w0 ?_;refine Fz ?_
  refine Ab @hx ?_;exact CO (Fv henc _ _ _ _)
 |cons x X=>
 generalize hb:P.length+(x::X).length=b at *;rw[List.length_cons]at hb;refine Ab @w0 ?_;refine AN (fun m e S=>e 0=.wr 0 n none∧e 1=.it .i64 (P.length:Int)∧e 2=.it .i64 (b:Int)∧e 3=.fn (.func 181) [] [] ∧ ∃(U W:List (Fo Ac.Act)),e 8=.it .i64 ((P.length+U.length:Nat):Int)∧S=[.row (AA Az (P++(U++W)++Q)) 218 22]∧(U++W).Perm (x::X)∧Up As U∧m=W.length) X.length ⟨Aa,Aa,Aa,Aa,[x],X,Aa,rfl,.refl _,by simp,rfl⟩ ?_
 rintro m e S ⟨s0,s1,s2,s3,U,W,s8,rfl,hpm,hU,rfl⟩
 have hlen:=hpm.length_eq;rw[List.length_append,List.length_cons]at hlen;cases W with
 |nil=>
  have hlt':¬((P.length+U.length:Nat):Int)<(b:Int):=by simp only[List.length_nil]at hlen;omega
  rw[List.append_nil]at hpm ⊢;rw[GE hpm hU];refine Ab (A6 @s0 @s1 @s2 @s3 @s8 @hlt') ?_;exact CO (Fv henc _ _ _ _)
 |cons v W=>
 rw[List.length_cons]at hlen;have hlt':((P.length+U.length:Nat):Int)<(b:Int):=by omega
 have w1:IntKind.i64.wrap (((P.length+U.length:Nat):Int)+1)=((P.length+(U.length+1):Nat):Int):=by rw[wrap64 (by omega) (by omega)];omega
 refine Ab (A6 @s0 @s1 @s2 @s3 @s8 @hlt') ?_;refine AN (fun m e S=>e 0=.wr 0 n none∧e 1=.it .i64 (P.length:Int)∧e 2=.it .i64 (b:Int)∧e 3=.fn (.func 181) [] []∧e 8=.it .i64 ((P.length+U.length:Nat):Int) ∧ ∃(V Z:List (Fo Ac.Act)),e 9=.it .i64 ((P.length+V.length:Nat):Int)∧S=[.row (AA Az (P++V++v::(Z++(W++Q)))) 218 22]∧V++Z=U∧(∀y∈Z,As v y=true)∧m=V.length) U.length ⟨Aa,Aa,Aa,Aa,Aa,U,[],Aa,by simp,by simp,by simp,rfl⟩ ?_
 clear s0 s1 s2 s3 s8;rintro m e S ⟨s0,s1,s2,s3,s8,V,Z,s9,rfl,hVZ,hZ,rfl⟩
 have hnext:∀(h:∀V' z,V=V'++[z]→As z v=true),(V++v::Z++W).Perm (x::X)∧Up As (V++v::Z)∧P.length+(U.length+1)=P.length+(V++v::Z).length∧P++V++v::(Z++(W++Q))=P++(V++v::Z++W)++Q:=fun h=>by
  refine⟨?_,O9 Cw (by rw[hVZ];exact hU) h hZ,?_,by simp⟩
  ·refine List.Perm.trans ?_ hpm
   rw[←hVZ];have h1:(V++v::Z).Perm (v::(V++Z)):=List.perm_middle;refine(h1.append_right W).trans ?_
   exact List.perm_middle.symm
  ·rw[←hVZ,List.length_append,List.length_append,List.length_cons]
   omega
 rcases List.eq_nil_or_concat V with hV|⟨V',z,hV⟩
 ·have hn:¬((P.length+V.length:Nat):Int)>(P.length:Int):=by rw[hV,List.length_nil];omega
  obtain⟨g1,g2,g3,g4⟩:=hnext fun V' z h=>by rw[hV]at h;simp at h
  rw[g4];obtain⟨q,hq⟩:∃q,q=P.length+(V++v::Z).length:=⟨_,rfl⟩
  rw[g3,←hq]at w1;refine Ab (A8 @s0 @s1 @s2 @s3 @s8 @s9 @hn @w1) ?_;clear hV g3 g4;exact Aj W.length (by simp) ⟨Aa,Aa,Aa,Aa,V++v::Z,W,by rw[←hq];clear hq;exact Aa,rfl,g1,g2,rfl⟩
 ·rw [List.concat_eq_append]at hV
  have hVl:V.length=V'.length+1:=by rw[hV];simp
  have hUl:V.length+Z.length=U.length:=by rw[←hVZ,List.length_append]
  obtain⟨j,hj⟩:∃j,j=P.length+V'.length:=⟨_,rfl⟩
  rw[show P.length+V.length=j+1 by omega]at s9
  have hn:((j+1:Nat):Int)>(P.length:Int):=by omega
  have wj:IntKind.i64.wrap (((j+1:Nat):Int)-1)=(j:Int):=by rw[wrap64 (by omega) (by omega)];omega
  have hM:P++V++v::(Z++(W++Q))=(P++V')++z::v::(Z++(W++Q)):=by rw[hV];simp
  have hjl:(P++V').length=j:=by rw[List.length_append,hj]
  have hYl:((P++V')++z::v::(Z++(W++Q))).length=n:=by
   rw[←hVZ,List.length_append]at hlen;simp only[List.length_append,List.length_cons]at *;omega
  have g0:((P++V')++z::v::(Z++(W++Q)))[j]? = some z:=by rw[←hjl];exact Mf _ _ _
  have g1:((P++V')++z::v::(Z++(W++Q)))[j+1]? = some v:=by
   rw[←hjl,List.getElem?_append_right (by omega),show(P++V').length+1-(P++V').length=1 by omega]
   rfl
  have hsw:(((P++V')++z::v::(Z++(W++Q))).set (j+1) z).set j v=P++V'++v::((z::Z)++(W++Q)):=by
   have :=Nk (P++V') [] (Z++(W++Q)) z v;rw[hjl]at this;show _=(P++V')++v::([]++z::(Z++(W++Q)))
   rw[←this];unfold Pn;rw[List.set_comm _ _ (by omega)]
   rfl
  rw[hM];generalize hY:(P++V')++z::v::(Z++(W++Q))=Y at *;have a1:=EH henc Y (j+1) _ g1;have a0:=EH henc Y j _ g0;have hF:=E2 henc Y;rw[hYl]at hF;change((AA Az Y).drop ((j+1)*22)).take 22=_ at a1;change((AA Az Y).drop (j*22)).take 22=_ at a0;change _=n*22 at hF;have hj1:j+1<n:=by have :=(List.getElem?_eq_some_iff.1 g1).1;omega
  have b1:(j+1)*22+22≤n*22:=by omega
  have b0:j*22+22≤n*22:=by omega
  have x1:((j+1:Nat):Int)<(n:Int):=by omega
  have x0:(j:Int)<(n:Int):=by omega
  have z1:(0:Int)≤((j+1:Nat):Int):=by omega
  have z0:(0:Int)≤(j:Int):=by omega
  have q1:((j+1)*22=0∧22=n*22)=False:=eq_false (by omega)
  have q0:(j*22=0∧22=n*22)=False:=eq_false (by omega)
  have kc:=N7 v z;have lv:=henc.cel v;have lz:=henc.cel z;change _=22 at lv;change _=22 at lz;refine Ab (an @s0 (an @s1 (an @s2 (an @s3 (an @s8 (an @s9 (an @hn (an @wj (an @x1 (an @x0 (An @z1 @z0 @hF @a1 @a0 @b1 @b0 @q1 @q0 @lv @lz))))))))))) ?_;refine cp kc ?_;cases hlf:As v z with
  | false=>
   have hc:¬F3 v.rank z.rank v.dig z.dig<0:=of_decide_eq_false hlf;have hvx:v∈x::X:=hpm.mem_iff.1 (by simp)
   have hzx:z∈x::X:=hpm.mem_iff.1 (by rw[←hVZ,hV];simp)
   have hzv:As z v=true:=by
    rcases hT.tri v hvx z hzx hlf with e|e
    ·exfalso
     have hnd:=hpm.nodup_iff.2 hT.nodup;rw[←hVZ,hV,e]at hnd;simp[List.nodup_append]at hnd
    ·exact e
   obtain⟨g1,g2,g3,g4⟩:=hnext fun V2 z2 h=>by
    rw[hV]at h;have :=(List.append_inj' h rfl).2;cases this
    exact hzv
   rw[hM]at g4;rw[g4];obtain⟨q,hq⟩:∃q,q=P.length+(V++v::Z).length:=⟨_,rfl⟩
   rw[g3,←hq]at w1;clear g3 g4;refine Ab (A8 @s0 @s1 @s2 @s3 @s8 @s9 @hc @w1) ?_;exact Aj W.length (by simp) ⟨Aa,Aa,Aa,Aa,V++v::Z,W,by rw[←hq];clear hq;exact Aa,rfl,g1,g2,rfl⟩
  | true=>
   have hc:F3 v.rank z.rank v.dig z.dig<0:=of_decide_eq_true hlf;have e1:Bf (AA Az Y) ((j+1)*22) (Cz Az z)=AA Az (Y.set (j+1) z):=H5 henc Y (j+1) z (by omega)
   have e2:Bf (AA Az (Y.set (j+1) z)) (j*22) (Cz Az v)=AA Az ((Y.set (j+1) z).set j v):=H5 henc _ j v (by rw[List.length_set];omega)
   have hF1:(AA Az (Y.set (j+1) z)).length=n*22:=by
    have :=E2 henc (Y.set (j+1) z);rwa[List.length_set,hYl]at this
   refine Ab (an @s0 (an @s1 (an @s2 (an @s3 (an @s8 (an @s9 (an @hc (an @wj (an @x1 (an @x0 (an @z1 (an @z0 (an @hF (An @a1 @a0 @b1 @b0 @q1 @q0 @e1 @e2 @hF1 @lv @lz)))))))))))))) ?_;rw[hsw];exact Aj V'.length (by omega) ⟨Aa,Aa,Aa,Aa,Aa,V',z::Z,by rw[←hj];exact Aa,rfl,by rw[←hVZ,hV];simp,fun y hy=>(List.mem_cons.1 hy).elim (fun e=>by rw[e];exact hlf) (hZ y),rfl⟩
end Pe
end
section
namespace Pe
open Tryz
open Go Go.RowKit Co Sg Ac It Sl Tp Sr
set_option maxRecDepth 100000
set_option maxHeartbeats 4000000
abbrev Fa:=Fo Ac.Act
theorem Za3(n:Nat)(P U W V Q:List Fa)(hl:n≤1000)(hUV:U.length=V.length)(hn:(P++U++W++V++Q).length=n):
  AC prog 344 [.wr 0 n none,.it .i64 (P.length:Int),.it .i64 ((P.length+U.length+W.length:Nat):Int),.it .i64 (U.length:Int),.fn (.func 181) [] []]
   [.row (AA Az (P++U++W++V++Q)) 218 22] (.tup []) [.row (AA Az (P++V++W++U++Q)) 218 22]:=by
 have henc:=Hz;simp only[List.length_append]at hn;refine AC.enter2 [] [] func344 rfl (by decide) (by decide) (Nat.le_of_ble_eq_true rfl) (by kernel_rfl) ?_
 refine AD ?_
 refine run ?_;refine AN (fun m e S=>e 0=.wr 0 n none∧e 1=.it .i64 (P.length:Int)∧e 2=.it .i64 ((P.length+U.length+W.length:Nat):Int)∧e 3=.it .i64 (U.length:Int) ∧ ∃(U1 U2 V1 V2:List Fa),e 10=.it .i64 (U1.length:Int)∧S=[.row (AA Az (P++V1++U2++W++U1++V2++Q)) 218 22]∧U1++U2=U∧V1++V2=V∧U1.length=V1.length∧m=U2.length) U.length ⟨Aa,Aa,Aa,Aa,[],U,[],V,Aa,by simp,rfl,rfl,rfl,rfl⟩ ?_
 rintro m e S ⟨s0,s1,s2,s3,U1,U2,V1,V2,s10,rfl,hU,hV,h1,rfl⟩
 have hlU:=congrArg List.length hU;have hlV:=congrArg List.length hV;rw[List.length_append]at hlU hlV;cases U2 with
 |nil=>
  have hx:¬(U1.length:Int)<(U.length:Int):=by simp only[List.length_nil]at hlU;omega
  have hV2:V2=[]:=List.eq_nil_of_length_eq_zero (by simp only[List.length_nil]at hlU;omega)
  subst hV2;rw[List.append_nil]at hU hV;subst hU hV;rw[show P++V1++[]++W++U1++[]++Q=P++V1++W++U1++Q by simp]
  refine Ab (A6 @s0 @s1 @s2 @s3 @s10 @hx) ?_;exact CO (Fv henc _ _ _ _)
 |cons u U2=>
 cases V2 with
 |nil=>exfalso;simp only[List.length_nil,List.length_cons]at hlU hlV;omega
 | cons v V2=>
  rw[List.length_cons]at hlU hlV;have hx:(U1.length:Int)<(U.length:Int):=by omega
  have w1:IntKind.i64.wrap ((U1.length:Int)+1)=((U1.length+1:Nat):Int):=by rw[wrap64 (by omega) (by omega)];omega
  obtain⟨i,hi⟩:∃i,i=P.length+U1.length:=⟨_,rfl⟩
  obtain⟨j,hj⟩:∃j,j=P.length+U.length+W.length+U1.length:=⟨_,rfl⟩
  have wi:IntKind.i64.wrap ((P.length:Int)+(U1.length:Int))=(i:Int):=by rw[wrap64 (by omega) (by omega)];omega
  have wj:IntKind.i64.wrap (((P.length+U.length+W.length:Nat):Int)+(U1.length:Int))=(j:Int):=by rw[wrap64 (by omega) (by omega)];omega
  have hM:P++V1++u::U2++W++U1++v::V2++Q=(P++V1)++u::((U2++W++U1)++v::(V2++Q)):=by simp
  have hil:(P++V1).length=i:=by rw[List.length_append];omega
  have hjl:i+((U2++W++U1).length+1)=j:=by simp only[List.length_append];omega
  have hsw:=Nk (P++V1) (U2++W++U1) (V2++Q) u v;have g0:((P++V1)++u::((U2++W++U1)++v::(V2++Q)))[i]? = some u:=by rw[←hil];exact Mf _ _ _
  have g1:((P++V1)++u::((U2++W++U1)++v::(V2++Q)))[j]? = some v:=by
   rw[List.getElem?_append_right (by omega),hil,show j-i=(U2++W++U1).length+1 by omega,List.getElem?_cons_succ]
   exact Mf _ _ _
  have hYl:((P++V1)++u::((U2++W++U1)++v::(V2++Q))).length=n:=by simp only[List.length_append,List.length_cons];omega
  rw[hil,hjl]at hsw;rw[hM];have hres:(P++V1)++v::((U2++W++U1)++u::(V2++Q))=P++(V1++[v])++U2++W++(U1++[u])++V2++Q:=by simp
  rw[hres]at hsw;generalize (P++V1)++u::((U2++W++U1)++v::(V2++Q))=Y at *;have hij:i<j:=by omega
  have hjn:j<n:=by have :=(List.getElem?_eq_some_iff.1 g1).1;omega
  have a1:=EH henc Y j _ g1;have a0:=EH henc Y i _ g0;have hF:=E2 henc Y;rw[hYl]at hF;change((AA Az Y).drop (j*22)).take 22=_ at a1;change((AA Az Y).drop (i*22)).take 22=_ at a0;change _=n*22 at hF;have b1:j*22+22≤n*22:=by omega
  have b0:i*22+22≤n*22:=by omega
  have x1:((j:Nat):Int)<(n:Int):=by omega
  have x0:((i:Nat):Int)<(n:Int):=by omega
  have z1:(0:Int)≤((j:Nat):Int):=by omega
  have z0:(0:Int)≤((i:Nat):Int):=by omega
  have q1:(j*22=0∧22=n*22)=False:=eq_false (by omega)
  have q0:(i*22=0∧22=n*22)=False:=eq_false (by omega)
  have l0:=henc.cel u;have l1:=henc.cel v;change _=22 at l0;change _=22 at l1;have e1:Bf (AA Az Y) (i*22) (Cz Az v)=AA Az (Y.set i v):=H5 henc Y i v (by omega)
  have e2:Bf (AA Az (Y.set i v)) (j*22) (Cz Az u)=AA Az ((Y.set i v).set j u):=H5 henc _ j u (by rw[List.length_set];omega)
  have hF1:(AA Az (Y.set i v)).length=n*22:=by
   have :=E2 henc (Y.set i v);rwa[List.length_set,hYl]at this
  change(Y.set i v).set j u=_ at hsw;refine Ab (an @s0 (an @s1 (an @s2 (an @s3 (an @s10 (an @hx (an @w1 (an @wi (an @wj (an @x1 (an @x0 (an @z1 (an @z0 (an @hF (An @a1 @a0 @b1 @b0 @q1 @q0 @e1 @e2 @hF1 @l0 @l1))))))))))))))) ?_;rw[hsw];exact Aj U2.length (by simp) ⟨Aa,Aa,Aa,Aa,U1++[u],U2,V1++[v],V2,by rw[List.length_append];exact Aa,rfl,by rw[←hU];simp,by rw[←hV];simp,by rw[List.length_append,List.length_append,h1];rfl,rfl⟩
end Pe
end
section
namespace Pe
open Tryz
open Go Go.RowKit Co Sg Ac It Sl Tp Sr
set_option maxRecDepth 100000
set_option maxHeartbeats 4000000
theorem Po(n a b k:Nat)(P U W V Q:List Fa)(ha:P.length=a)(hb:P.length+U.length+W.length=b)(hk:U.length=k)(hk':V.length=k)(hl:n≤1000)(hn:(P++U++W++V++Q).length=n):
  AC prog 344 [.wr 0 n none,.it .i64 (a:Int),.it .i64 (b:Int),.it .i64 (k:Int),.fn (.func 181) [] []]
   [.row (AA Az (P++U++W++V++Q)) 218 22] (.tup []) [.row (AA Az (P++V++W++U++Q)) 218 22]:=by
 subst ha hb hk;exact Za3 n P U W V Q hl hk'.symm hn
theorem Zcf(n a m b:Nat)(P U V Q:List Fa)(ha:P.length=a)(hm:P.length+U.length=m)(hb:P.length+U.length+V.length=b)(hU:U≠[])(hV:V≠[])(hl:n≤1000)(hn:(P++U++V++Q).length=n):
  AC prog 326 [.wr 0 n none,.it .i64 (a:Int),.it .i64 (m:Int),.it .i64 (b:Int),.fn (.func 181) [] []]
   [.row (AA Az (P++U++V++Q)) 218 22] (.tup []) [.row (AA Az (P++V++U++Q)) 218 22]:=by
 have henc:=Hz;simp only[List.length_append]at hn;have u0:IntKind.i64.wrap ((m:Int)-(a:Int))=(U.length:Int):=by rw[wrap64 (by omega) (by omega)];omega
 have v0:IntKind.i64.wrap ((b:Int)-(m:Int))=(V.length:Int):=by rw[wrap64 (by omega) (by omega)];omega
 refine AC.enter2 [] [] func326 rfl (by decide) (by decide) (Nat.le_of_ble_eq_true rfl) (by kernel_rfl) ?_
 refine AD ?_
 refine Ab (an @u0 @v0) ?_;refine AN (fun t e S=>e 0=.wr 0 n none∧e 2=.it .i64 (m:Int)∧e 4=.fn (.func 181) [] [] ∧ ∃(P' U' V' Q':List Fa),e 10=.it .i64 (U'.length:Int)∧e 11=.it .i64 (V'.length:Int)∧S=[.row (AA Az (P'++U'++V'++Q')) 218 22]∧P'++V'++U'++Q'=P++V++U++Q∧P'.length+U'.length=m∧U'≠[]∧V'≠[]∧t=U'.length+V'.length) (U.length+V.length) ⟨Aa,Aa,Aa,P,U,V,Q,Aa,Aa,rfl,rfl,hm,hU,hV,rfl⟩ ?_
 clear u0 v0;rintro t e S ⟨s0,s2,s4,P',U',V',Q',s10,s11,rfl,hR,hm',hU',hV',rfl⟩
 have hRl:=congrArg List.length hR;simp only[List.length_append]at hRl;have hUp:=List.length_pos_iff.2 hU';have hVp:=List.length_pos_iff.2 hV';obtain⟨p,hp⟩:∃p,p=P'.length:=⟨_,rfl⟩
 have wp:IntKind.i64.wrap ((m:Int)-(U'.length:Int))=(p:Int):=by rw[wrap64 (by omega) (by omega)];omega
 by_cases hij:U'.length=V'.length
 ·have k:=Po n p m U'.length P' U' [] V' Q' hp.symm (by simpa using hm') rfl hij.symm hl (by simp only[List.length_append,List.length_nil];omega)
  simp only[List.append_nil]at k;rw[hR]at k;have x:((U'.length:Int) !=(V'.length:Int))=false:=Df (by omega)
  refine Ab (A7 @s0 @s2 @s4 @s10 @s11 @x @wp) ?_;refine AZ k ?_;refine run ?_;exact CO (Fv henc _ _ _ _)
 ·have x:((U'.length:Int) !=(V'.length:Int))=true:=C6 (by omega)
  by_cases hgt:U'.length>V'.length
  ·have hg:(U'.length:Int)>(V'.length:Int):=by omega
   have wi:IntKind.i64.wrap ((U'.length:Int)-(V'.length:Int))=((U'.drop V'.length).length:Int):=by rw[wrap64 (by omega) (by omega),List.length_drop];omega
   have k:=Po n p m V'.length P' (U'.take V'.length) (U'.drop V'.length) V' Q' hp.symm (by rw[List.length_take,List.length_drop];omega) (by rw[List.length_take];omega) rfl hl (by simp only[List.length_append,List.length_take,List.length_drop];omega)
   rw[show P'++U'.take V'.length++U'.drop V'.length++V'++Q'=P'++U'++V'++Q' by rw[List.append_assoc P',List.take_append_drop]]at k
   refine Ab (A8 @s0 @s2 @s4 @s10 @s11 @x @hg @wp) ?_;refine AZ k ?_;refine Ab (A6 @s0 @s2 @s4 @s10 @s11 @wi) ?_;refine Aj ((U'.drop V'.length).length+(U'.take V'.length).length) (by rw[List.length_drop,List.length_take];omega) ⟨Aa,Aa,Aa,P'++V',U'.drop V'.length,U'.take V'.length,Q',Aa,?_,rfl,?_,?_,?_,?_,rfl⟩
   ·have:(U'.take V'.length).length=V'.length:=by rw[List.length_take];omega
    rw[this];exact Aa
   ·rw[←hR,List.append_assoc (P'++V'),List.take_append_drop]
   ·rw[List.length_append,List.length_drop];omega
   ·intro e;have :=congrArg List.length e;rw[List.length_drop,List.length_nil]at this;omega
   ·intro e;have :=congrArg List.length e;rw[List.length_take,List.length_nil]at this;omega
  ·have hg:¬(U'.length:Int)>(V'.length:Int):=by omega
   obtain⟨q,hq⟩:∃q,q=m+(V'.length-U'.length):=⟨_,rfl⟩
   have wj:IntKind.i64.wrap ((V'.length:Int)-(U'.length:Int))=((V'.take (V'.length-U'.length)).length:Int):=by rw[wrap64 (by omega) (by omega),List.length_take];omega
   have wq1:IntKind.i64.wrap ((m:Int)+(V'.length:Int))=(m:Int)+(V'.length:Int):=wrap64 (by omega) (by omega)
   have wq:IntKind.i64.wrap ((m:Int)+(V'.length:Int)-(U'.length:Int))=(q:Int):=by rw[wrap64 (by omega) (by omega)];omega
   have k:=Po n p q U'.length P' U' (V'.take (V'.length-U'.length)) (V'.drop (V'.length-U'.length)) Q' hp.symm (by rw[List.length_take];omega) rfl (by rw[List.length_drop];omega) hl (by simp only[List.length_append,List.length_take,List.length_drop];omega)
   rw[show P'++U'++V'.take (V'.length-U'.length)++V'.drop (V'.length-U'.length)++Q'=P'++U'++V'++Q' by rw[List.append_assoc (P'++U'),List.take_append_drop]]at k
   refine Ab (BZ @s0 @s2 @s4 @s10 @s11 @x @hg @wp @wq1 @wq) ?_;refine AZ k ?_;refine Ab (A6 @s0 @s2 @s4 @s10 @s11 @wj) ?_;refine Aj ((V'.drop (V'.length-U'.length)).length+(V'.take (V'.length-U'.length)).length) (by rw[List.length_drop,List.length_take];omega) ⟨Aa,Aa,Aa,P',V'.drop (V'.length-U'.length),V'.take (V'.length-U'.length),U'++Q',?_,Aa,by rw[←List.append_assoc],?_,?_,?_,?_,rfl⟩
   ·have:(V'.drop (V'.length-U'.length)).length=U'.length:=by rw[List.length_drop];omega
    rw[this];exact Aa
   ·rw[←hR,List.append_assoc P' (V'.take _),List.take_append_drop];simp
   ·rw[List.length_drop];omega
   ·intro e;have :=congrArg List.length e;rw[List.length_drop,List.length_nil]at this;omega
   ·intro e;have :=congrArg List.length e;rw[List.length_take,List.length_nil]at this;omega
end Pe
end
section
namespace Sr
open Tryz
section
variable {α:Type _} {lt:α→α→Bool}
theorem ZaA{U:List α}{z:α}(h:Up lt (U++[z])):∀y∈U,lt y z=true:=fun y hy=>(List.pairwise_append.1 h).2.2 y hy z (by simp)
theorem ZaC{U:List α}{z:α}(h:Up lt (z::U)):∀y∈U,lt z y=true:=(List.pairwise_cons.1 h).1
theorem Xq(h:Strict lt){A B:List α}(hA:Up lt A)(hB:Up lt B)(h1:∀V x W y,A=V++[x]→B=y::W→lt x y=true):∀a∈A,∀b∈B,lt a b=true:=fun a ha b hb=>by
 rcases List.eq_nil_or_concat A with e|⟨V,x,e⟩
 ·rw[e]at ha;simp at ha
 ·rw[List.concat_eq_append]at e
  cases B with
  |nil=>simp at hb
  | cons y W=>
   have h0:=h1 V x W y e rfl;have ha':lt a y=true:=by
    rw[e]at ha hA;rcases List.mem_append.1 ha with ha|ha
    ·exact h.trans (ZaA hA a ha) h0
    ·rw[List.mem_singleton.1 ha];exact h0
   rcases List.mem_cons.1 hb with e'|hb
   ·rw[e'];exact ha'
   ·exact h.trans ha' (ZaC hB b hb)
theorem Zfj(h:Strict lt){X1 X2 Y1 Y2:List α}(hX:Up lt (X1++X2))(hY:Up lt (Y1++Y2))(h1:∀V x W y,X1=V++[x]→Y2=y::W→lt x y=true)(h2:∀V y W x,Y1=V++[y]→X2=x::W→lt y x=true):
  ∀a∈X1++Y1,∀b∈X2++Y2,lt a b=true:=fun a ha b hb=>by
 obtain⟨x1,x2,x3⟩:=List.pairwise_append.1 hX;obtain⟨y1,y2,y3⟩:=List.pairwise_append.1 hY;rcases List.mem_append.1 ha with ha|ha<;>rcases List.mem_append.1 hb with hb|hb
 ·exact x3 a ha b hb
 ·exact Xq h x1 y2 h1 a ha b hb
 ·exact Xq h y1 x2 h2 a ha b hb
 ·exact y3 a ha b hb
theorem ZaB{L R SL SR:List α}(hl:Up lt SL)(hr:Up lt SR)(pl:SL.Perm L)(pr:SR.Perm R)(h:∀a∈L,∀b∈R,lt a b=true):Up lt (SL++SR):=
 List.pairwise_append.2 ⟨hl,hr,fun a ha b hb=>h a (pl.mem_iff.1 ha) b (pr.mem_iff.1 hb)⟩
theorem HU(h:Strict lt){l:List α}(hu:Up lt l){i j:Nat}{x y:α}(hi:l[i]? = some x)(hj:l[j]? = some y)(hij:i<j):lt x y=true:=by
 obtain⟨h1,e1⟩:=List.getElem?_eq_some_iff.1 hi
 obtain⟨h2,e2⟩:=List.getElem?_eq_some_iff.1 hj
 have :=List.pairwise_iff_getElem.1 hu i j h1 h2 hij;rwa[e1,e2]at this
theorem No{l V:List α}{i:Nat}{x:α}(h:l.take i=V++[x])(hi:i≤l.length):0<i∧l[i-1]? = some x:=by
 have hl:=congrArg List.length h;rw[List.length_take,List.length_append,List.length_singleton]at hl;refine⟨by omega,?_⟩
 have:(l.take i)[i-1]? = (V++[x])[i-1]? :=by rw[h]
 rw[List.getElem?_take,if_pos (by omega)]at this
 rw[this,List.getElem?_append_right (by omega),show i-1-V.length=0 by omega]
 rfl
theorem Xw{l W:List α}{i:Nat}{y:α}(h:l.drop i=y::W):l[i]? = some y:=by
 have:(l.drop i)[0]? = (y::W)[0]? :=by rw[h]
 simpa using this
end
end Sr
end
section
namespace Pe
open Tryz
open Go Go.RowKit Co Sg Ac It Sl Tp Sr
set_option maxRecDepth 100000
set_option maxHeartbeats 4000000
theorem Nu(k:Nat)(hk:k<4611686018427387904):El .u64 (IntKind.u64.wrap (k:Int)) 1=some (.it .u64 ((k / 2:Nat):Int)):=by
 have hw:IntKind.u64.wrap (k:Int)=(k:Int):=by
  show(k:Int) % 18446744073709551616=k
  omega
 rw[hw];show some (AV.it .u64 ((k:Int).fdiv (2^(min (1:Int).toNat 64))))=_
 congr 2
 rw[show(2:Int)^(min (1:Int).toNat 64)=2 from rfl,Int.fdiv_eq_ediv_of_nonneg _ (by decide)]
 omega
theorem KA(P X R:List Fa){t:Nat}{x:Fa}(h:X[t]? = some x):(P++X++R)[P.length+t]? = some x:=by
 have ht:=(List.getElem?_eq_some_iff.1 h).1
 rw[List.append_assoc,List.getElem?_append_right (by omega),show P.length+t-P.length=t by omega,List.getElem?_append_left ht]
 exact h
theorem Za2(n:Nat)(hl:n≤1000)(P Y Q:List Fa)(x:Fa)(a m b:Nat)(ha:P.length=a)(hm:a+1=m)(hb:m+Y.length=b)(hY:Up As Y)(hT:Tot As (x::Y))(hn:(P++[x]++Y++Q).length=n):
  AC prog 310 [.wr 0 n none,.it .i64 (a:Int),.it .i64 (m:Int),.it .i64 (b:Int),.fn (.func 181) [] []]
   [.row (AA Az (P++[x]++Y++Q)) 218 22] (.tup []) [.row (AA Az (P++AY As (x::Y)++Q)) 218 22]:=by
 have henc:=Hz;have hYl:=hn;simp only[List.length_append,List.length_singleton]at hn;refine AC.enter2 [1000040,1000092,1000158] [] func310 rfl (by decide) (by decide) (Nat.le_of_ble_eq_true rfl) (by kernel_rfl) ?_
 refine AD ?_
 have wma:IntKind.i64.wrap ((m:Int)-(a:Int))=1:=by rw[wrap64 (by omega) (by omega)];omega
 refine Ab @wma ?_;clear wma;refine AN (fun t e S=>e 0=.wr 0 n none∧e 1=.it .i64 (a:Int)∧e 4=.fn (.func 181) [] []∧S=[.row (AA Az (P++[x]++Y++Q)) 218 22] ∧ ∃i j i' j':Nat,e 10=.it .i64 (i:Int)∧e 11=.it .i64 (j:Int)∧i=m+i'∧j=m+j'∧i'≤j'∧j'≤Y.length∧(∀(c:Nat) y,Y[c]? = some y→c<i'→As y x=true)∧(∀(c:Nat) y,Y[c]? = some y→j'≤c→As y x=false)∧t=j'-i') Y.length ⟨Aa,Aa,Aa,rfl,m,b,0,Y.length,Aa,Aa,rfl,hb.symm,Nat.zero_le _,Nat.le_refl _,fun c y _ h=>absurd h (Nat.not_lt_zero _),fun c y h h'=>by have :=(List.getElem?_eq_some_iff.1 h).1;omega,rfl⟩ ?_
 rintro t e S ⟨s0,s1,s4,rfl,i,j,i',j',s10,s11,ei,ej,hij,hj,hlo,hhi,rfl⟩
 by_cases hlt:i'<j'
 ·have x0:(i:Int)<(j:Int):=by omega
  obtain⟨h,hh⟩:∃h,h=(i+j) / 2:=⟨_,rfl⟩
  obtain⟨h',hh'⟩:∃h',h=m+h':=⟨h-m,by omega⟩
  have xx:=x0;have hs2:El .u64 (IntKind.u64.wrap ((i+j:Nat):Int)) 1=some (.it .u64 (h:Int)):=by rw[hh];exact Nu _ (by omega)
  have wh:IntKind.i64.wrap (h:Int)=(h:Int):=wrap64 (by omega) (by omega)
  have ww:IntKind.i64.wrap ((i:Int)+(j:Int))=((i+j:Nat):Int):=by rw[wrap64 (by omega) (by omega)];omega
  have wh1:=AT (k:=h) (by omega)
  have hhl:h'<Y.length:=by omega
  have gy:Y[h']? = some Y[h']:=List.getElem?_eq_getElem hhl
  generalize Y[h']=y at gy;have g1:(P++[x]++Y++Q)[h]? = some y:=by
   have :=KA (P++[x]) Y Q gy;rwa[List.length_append,List.length_singleton,ha,hm,←hh']at this
  have g0:(P++[x]++Y++Q)[a]? = some x:=by
   have :=KA P [x] (Y++Q) (t:=0) (x:=x) rfl;rw[Nat.add_zero,ha]at this;simpa using this
  have kc:=N7 y x;generalize P++[x]++Y++Q=Z at *;have hij2:a<h:=by omega
  have hjn:h<n:=by have :=(List.getElem?_eq_some_iff.1 g1).1;omega
  have a1:=EH henc Z h _ g1;have a0:=EH henc Z a _ g0;have hF:=E2 henc Z;rw[hYl]at hF;change((AA Az Z).drop (h*22)).take 22=_ at a1;change((AA Az Z).drop (a*22)).take 22=_ at a0;change _=n*22 at hF;have b1:h*22+22≤n*22:=by omega
  have b0:a*22+22≤n*22:=by omega
  have x1:((h:Nat):Int)<(n:Int):=by omega
  have x0:((a:Nat):Int)<(n:Int):=by omega
  have z1:(0:Int)≤((h:Nat):Int):=by omega
  have z0:(0:Int)≤((a:Nat):Int):=by omega
  have q1:(h*22=0∧22=n*22)=False:=eq_false (by omega)
  have q0:(a*22=0∧22=n*22)=False:=eq_false (by omega)
  have l0:=henc.cel x;have l1:=henc.cel y;change _=22 at l0;change _=22 at l1;refine Ab (an @s0 (an @s1 (an @s4 (an @s10 (an @s11 (an @xx (an @ww (an @hs2 (an @wh (an @x1 (an @x0 (An @z1 @z0 @hF @a1 @a0 @b1 @b0 @q1 @q0 @l0 @l1)))))))))))) ?_;refine cp kc ?_;cases hlf:As y x with
  | true=>
   have hc:F3 y.rank x.rank y.dig x.dig<0:=of_decide_eq_true hlf;refine Ab (A7 @s0 @s1 @s4 @s10 @s11 @hc @wh1) ?_;exact Aj (j'-(h'+1)) (by omega) ⟨Aa,Aa,Aa,rfl,h+1,j,h'+1,j',Aa,Aa,by omega,ej,by omega,hj,fun c z hz hc=>by
    by_cases e:c=h'
    ·subst e;rw[gy]at hz;cases hz;exact hlf
    ·exact Cw.trans (HU Cw hY hz gy (by omega)) hlf,hhi,rfl⟩
  | false=>
   have hc:¬F3 y.rank x.rank y.dig x.dig<0:=of_decide_eq_false hlf;refine Ab (A6 @s0 @s1 @s4 @s10 @s11 @hc) ?_;exact Aj (h'-i') (by omega) ⟨Aa,Aa,Aa,rfl,i,h,i',h',Aa,Aa,ei,hh',by omega,by omega,hlo,(fun c z hz hc=>by
    by_cases e:c=h'
    ·subst e;rw[gy]at hz;cases hz;exact hlf
    ·cases e2:As z x with
     |false=>rfl
     |true=>have :=Cw.trans (HU Cw hY gy hz (by omega)) e2;rw[hlf]at this;cases this),rfl⟩
 ·obtain rfl:i'=j':=by omega
  have x0:¬(i:Int)<(j:Int):=by omega
  have hres:AY As (x::Y)=Y.take i'++x::Y.drop i':=by
   refine GE (List.perm_middle.trans (by rw[List.take_append_drop])) (O9 Cw (by rw[List.take_append_drop];exact hY) (fun W z hW=>?_) fun y hy=>?_)
   ·obtain⟨p1,p2⟩:=No hW hj
    exact hlo _ z p2 (by omega)
   ·obtain⟨c,hc⟩:=List.mem_iff_getElem?.1 hy
    rw[List.getElem?_drop]at hc
    rcases hT.tri y (List.mem_cons_of_mem _ (List.mem_of_getElem? hc)) x (by simp) (hhi _ y hc (by omega))with e|e
    ·exfalso
     have :=(List.nodup_cons.1 hT.nodup).1;rw[←e]at this;exact this (List.mem_of_getElem? hc)
    ·exact e
  rw[hres];clear hres;have wi:IntKind.i64.wrap ((i:Int)-1)=((a+i':Nat):Int):=by rw[wrap64 (by omega) (by omega)];omega
  refine Ab (A6 @s0 @s1 @s4 @s10 @s11 @x0) ?_;refine AN (fun t e S=>e 0=.wr 0 n none∧e 10=.it .i64 (i:Int) ∧ ∃k t':Nat,e 13=.it .i64 (k:Int)∧k=a+t'∧t'≤i'∧S=[.row (AA Az (P++(Y.take t'++x::Y.drop t')++Q)) 218 22]∧t=i'-t') i' ⟨Aa,Aa,a,0,Aa,rfl,Nat.zero_le _,by simp,rfl⟩ ?_
  clear s0 s1 s4 s10 s11 x0;rintro t e S ⟨s0,s10,k,t',s13,ek,ht,rfl,rfl⟩
  by_cases hk:t'<i'
  ·have hx:(k:Int)<((a+i':Nat):Int):=by omega
   have wk1:=AT (k:=k) (by omega)
   have gy:Y[t']? = some Y[t']:=List.getElem?_eq_getElem (by omega)
   have hd:Y.drop t'=Y[t']::Y.drop (t'+1):=List.drop_eq_getElem_cons (by omega)
   have htk:Y.take (t'+1)=Y.take t'++[Y[t']]:=List.take_succ_eq_append_getElem (by omega)
   generalize Y[t']=y at gy hd htk;have hM:P++(Y.take t'++x::Y.drop t')++Q=(P++Y.take t')++x::([]++y::(Y.drop (t'+1)++Q)):=by rw[hd];simp
   have hkl:(P++Y.take t').length=k:=by rw[List.length_append,List.length_take];omega
   have hsw:=Nk (P++Y.take t') [] (Y.drop (t'+1)++Q) x y;have g0:((P++Y.take t')++x::([]++y::(Y.drop (t'+1)++Q)))[k]? = some x:=by rw[←hkl];exact Mf _ _ _
   have g1:((P++Y.take t')++x::([]++y::(Y.drop (t'+1)++Q)))[k+1]? = some y:=by
    rw[List.getElem?_append_right (by omega),hkl,show k+1-k=1 by omega];rfl
   have hYl:((P++Y.take t')++x::([]++y::(Y.drop (t'+1)++Q))).length=n:=by
    simp only[List.length_append,List.length_cons,List.length_nil,List.length_take,List.length_drop];omega
   rw[hkl]at hsw;have hres:(P++Y.take t')++y::([]++x::(Y.drop (t'+1)++Q))=P++(Y.take (t'+1)++x::Y.drop (t'+1))++Q:=by rw[htk];simp
   rw[hres]at hsw;rw[hM];generalize (P++Y.take t')++x::([]++y::(Y.drop (t'+1)++Q))=Z at *;have hjn:k+1<n:=by have :=(List.getElem?_eq_some_iff.1 g1).1;omega
   have a1:=EH henc Z (k+1) _ g1;have a0:=EH henc Z k _ g0;have hF:=E2 henc Z;rw[hYl]at hF;change((AA Az Z).drop ((k+1)*22)).take 22=_ at a1;change((AA Az Z).drop (k*22)).take 22=_ at a0;change _=n*22 at hF;have b1:(k+1)*22+22≤n*22:=by omega
   have b0:k*22+22≤n*22:=by omega
   have x1:(((k+1):Nat):Int)<(n:Int):=by omega
   have x0:((k:Nat):Int)<(n:Int):=by omega
   have z1:(0:Int)≤(((k+1):Nat):Int):=by omega
   have z0:(0:Int)≤((k:Nat):Int):=by omega
   have q1:((k+1)*22=0∧22=n*22)=False:=eq_false (by omega)
   have q0:(k*22=0∧22=n*22)=False:=eq_false (by omega)
   have l0:=henc.cel x;have l1:=henc.cel y;change _=22 at l0;change _=22 at l1;have e1:Bf (AA Az Z) (k*22) (Cz Az y)=AA Az (Z.set k y):=H5 henc Z k y (by omega)
   have e2:Bf (AA Az (Z.set k y)) ((k+1)*22) (Cz Az x)=AA Az ((Z.set k y).set (k+1) x):=H5 henc _ (k+1) x (by rw[List.length_set];omega)
   have hF1:(AA Az (Z.set k y)).length=n*22:=by
    have :=E2 henc (Z.set k y);rwa[List.length_set,hYl]at this
   change(Z.set k y).set (k+1) x=_ at hsw;refine Ab (an @s0 (an @s10 (an @s13 (an @wi (an @hx (an @wk1 (an @x1 (an @x0 (an @z1 (an @z0 (an @hF (An @a1 @a0 @b1 @b0 @q1 @q0 @e1 @e2 @hF1 @l0 @l1)))))))))))) ?_;rw[hsw];exact Aj (i'-(t'+1)) (by omega) ⟨Aa,Aa,k+1,t'+1,Aa,by omega,by omega,rfl,rfl⟩
  ·obtain rfl:t'=i':=by omega
   have hx:¬(k:Int)<((a+t':Nat):Int):=by omega
   refine Ab (A5 @s0 @s10 @s13 @wi @hx) ?_;exact CO (Fv henc _ _ _ _)
end Pe
end
end Go.Proofs.YtipfggegddlgdaaGreatDoor
