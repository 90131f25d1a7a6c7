import Derived.Test.YtipfggegddlgdaaGreatDoorKw29
set_option linter.unusedSectionVars false
set_option linter.unusedVariables false
set_option linter.unusedSimpArgs false
namespace Go.Proofs.YtipfggegddlgdaaGreatDoor
section
namespace Pe
open Tryz
open Go Go.RowKit Co Sg Ac It Sl Tp
set_option maxRecDepth 100000
set_option maxHeartbeats 4000000
def LH(c:Chn)(G:List Int)(n:Nat):Bool:=G.contains (CI c (Bb c n).1).1.pub||(c.acts.getD (Bb c n).1 Al).wraps.any fun w=>G.contains w.to
theorem Z8(l:List Wrap):AK 5 (l.map Bj)=true:=BG 5 Bj (fun _=>rfl) _
theorem ZcE(c:Chn)(n:Nat)(a:Ac.Act)(G:List Int)(hg:c.acts[n]? = some a)(hcl:c.acts.length≤400)(hk:Jk a)(hs:a.scope=0):
  AC prog 34 [AG c,.fm (Dq G),.it .i64 (n:Int)] [] (.bo true) []:=by
 have hn:=(List.getElem?_eq_some_iff.1 hg).1
 have kp:=LL a.kind;obtain⟨id,acts,keys,prev,gen,fork⟩:=c;simp only at hg hcl hn ⊢
 have hsz:=BX acts;have h0:¬(n:Int)<0:=by omega
 have h0':(0:Int)≤(n:Int):=by omega
 have h1:¬(n:Int)≥(acts.length:Int):=by omega
 have h1':(n:Int)<(acts.length:Int):=by omega
 have qs:(a.scope==0)=true:=beq_iff_eq.2 hs;generalize Dq G=E at *;rcases Pg hk with hp|⟨hp,_,hp'⟩
 ·rw[hp]at kp
  refine Ah [70,78,79] [] func34 ?_;refine Ab (A6 @h0 @h0' @h1 @h1' @hg @hsz) ?_;refine cp kp ?_;refine Ab @qs ?_;exact Ad
 ·rw[hp]at kp
  refine Ah [70,78,79] [] func34 ?_;refine Ab (A6 @h0 @h0' @h1 @h1' @hg @hsz) ?_;refine cp kp ?_;refine Ab (an @hp' @qs) ?_;exact Ad
theorem ZcD(c:Chn)(n:Nat)(a:Ac.Act)(G:List Int)(hg:c.acts[n]? = some a)(hcl:c.acts.length≤400)(hkl:c.keys.length≤400)(hr:Bg c.acts)(hk:Jk a)(hs:a.scope=1)(hgr:a.group=[])(hg2:(Bb c n).2=true)(hgn:(Bb c n).1<n)
  (hep:(c.acts.getD (Bb c n).1 Al).epoch=a.epoch)(hkey:(CI c (Bb c n).1).2=true):
  AC prog 34 [AG c,.fm (Dq G),.it .i64 (n:Int)] [] (.bo (LH c G n)) []:=by
 have hn:=(List.getElem?_eq_some_iff.1 hg).1
 have kp:=LL a.kind;have kg:=XK c n (by omega) (by omega)
 have kk:=Zhr c (Bb c n).1 (by omega) (by omega) (by omega)
 have hgg:c.acts[(Bb c n).1]? = some (c.acts.getD (Bb c n).1 Al):=by rw[List.getD_eq_getElem?_getD,List.getElem?_eq_getElem (by omega)];rfl
 have hrg:Ac.right (c.acts.getD (Bb c n).1 Al)=true:=hr _ (List.mem_of_getElem? hgg);have hwl:=(Cp hrg).wraps.1;rw[hg2]at kg;rw[hkey]at kk;unfold LH;generalize (CI c (Bb c n).1).1=ky at *;generalize (Bb c n).1=g at *;generalize c.acts.getD g Al=A at *;obtain⟨id,acts,keys,prev,gen,fork⟩:=c;simp only at hg hcl hn hgg ⊢
 have hsz:=BX acts;have hszw:=Z8 A.wraps;have h0:¬(n:Int)<0:=by omega
 have h0':(0:Int)≤(n:Int):=by omega
 have h1:¬(n:Int)≥(acts.length:Int):=by omega
 have h1':(n:Int)<(acts.length:Int):=by omega
 have g0:(0:Int)≤(g:Int):=by omega
 have g1:(g:Int)<(acts.length:Int):=by omega
 have qs:(a.scope==0)=false:=by rw[hs];rfl
 have qe:(A.epoch !=a.epoch)=false:=by rw[hep];simp
 have qe':(A.epoch==a.epoch)=true:=by rw[hep];simp
 obtain⟨b0,hb0⟩:∃b,G.contains ky.pub=b:=⟨_,rfl⟩
 have hfT:∀p,G.contains p=true → ∃j,Cj (.it .i64 p) (Dq G) 0=some (some (j,.bo true)):=fun p h=>by
  obtain⟨j,hf,_⟩:=VF (List.contains_iff_mem.1 h);exact⟨j,hf⟩
 have hfF:∀p,G.contains p=false→Cj (.it .i64 p) (Dq G) 0=some none:=fun p h=>VD fun hm=>by
  rw[←List.contains_iff_mem,h]at hm;cases hm
 rw[hb0];generalize hE:Dq G=E at *;clear hE;obtain⟨b,hp,q,hp',hbq⟩:∃b,Cx a.kind=b ∧ ∃q,(a.kind !=14)=q∧(b=true∨(b=false∧q=false)):=by
  rcases Pg hk with h|⟨h,_,h'⟩
  ·exact⟨true,h,_,rfl,.inl rfl⟩
  ·exact⟨false,h,false,h',.inr ⟨rfl,rfl⟩⟩
 rw[hp]at kp;cases b0 with
 | true=>
  rw[Bool.true_or];obtain⟨j0,f0⟩:=hfT _ hb0;rcases hbq with rfl|⟨rfl,rfl⟩
  all_goals
   refine Ah [70,78,79] [] func34 ?_;refine Ab (A6 @h0 @h0' @h1 @h1' @hg @hsz) ?_;refine cp kp ?_;refine Ab (A4 @hp' @qs @hs @hgr) ?_;refine cp kg ?_;refine Ab (A5 @g0 @g1 @hgg @hsz @qe) ?_;refine cp kk ?_;refine Ab @f0 ?_;exact Ad
 | false=>
  rw[Bool.false_or];have f0:=hfF _ hb0;generalize hf:(fun w:Wrap=>G.contains w.to)=f
  have hff:∀w:Wrap,f w=G.contains w.to:=fun w=>by rw[←hf]
  have hany:=Yu f A.wraps;have hin:∀k (h:k<A.wraps.length),f A.wraps[k]=true→A.wraps.any f=true:=fun k h e=>List.any_eq_true.2 ⟨_,List.getElem_mem h,e⟩
  have hend:(A.wraps.take A.wraps.length).any f=A.wraps.any f:=by rw[List.take_length]
  generalize hR:A.wraps.any f=R at *;rcases hbq with rfl|⟨rfl,rfl⟩
  all_goals
   refine Ah [70,78,79] [] func34 ?_;refine Ab (A6 @h0 @h0' @h1 @h1' @hg @hsz) ?_;refine cp kp ?_;refine Ab (A4 @hp' @qs @hs @hgr) ?_;refine cp kg ?_;refine Ab (A5 @g0 @g1 @hgg @hsz @qe) ?_;refine cp kk ?_;refine Ab (A5 @f0 @g0 @g1 @hgg @hsz) ?_;refine AN (fun m e S=>e 1=.fm E∧e 81=.sl .ro (A.wraps.map Bj)∧e 82=.it .i64 (A.wraps.length:Int) ∧ ∃(k:Nat) (c1 c2 c3:SObj) (T:Ae),e 83=.it .i64 (k:Int)∧S=c1::c2::c3::T∧(A.wraps.take k).any f=false∧k≤A.wraps.length∧m=A.wraps.length-k) A.wraps.length ⟨Aa,Aa,Aa,0,_,_,_,[],Aa,rfl,rfl,by omega,rfl⟩ ?_
   rintro m e S ⟨s1,s81,s82,k,c1,c2,c3,T,s83,rfl,hk,hkl,rfl⟩
   have hT1:∀y:SObj,(T++[y])[T.length]? = some y:=fun y=>by simp
   have hT2:∀y z:SObj,(T++[y]).set T.length z=T++[z]:=fun y z=>by simp
   by_cases hlt:k<A.wraps.length
   ·have hgw:A.wraps[k]? = some A.wraps[k]:=List.getElem?_eq_getElem hlt
    have hlt':(k:Int)<(A.wraps.length:Int):=by omega
    have hk0:(0:Int)≤(k:Int):=by omega
    have w1:=AT (k:=k) (by omega)
    have hin:=hin k hlt;have hany:=hany k hlt;rw[hk,Bool.false_or]at hany;generalize A.wraps[k]=w at *;cases hw:f w with
    |true=>
     obtain rfl:=hin hw;obtain⟨jw,fr⟩:=hfT w.to (by rw[←hff w];exact hw)
     refine Ab (An @s1 @s81 @s82 @s83 @hlt' @hk0 @hgw @hszw @fr @hT1 @hT2) ?_;exact Ad
    |false=>
     rw[hw]at hany;have fr:=hfF w.to (by rw[←hff w];exact hw)
     refine Ab (an @s1 (An @s81 @s82 @s83 @hlt' @hk0 @hgw @hszw @fr @hT1 @hT2 @w1)) ?_;exact Aj (A.wraps.length-(k+1)) (by omega) ⟨Aa,Aa,Aa,k+1,_,_,_,_,Aa,rfl,hany,by omega,rfl⟩
   ·obtain rfl:k=A.wraps.length:=by omega
    rw[hend]at hk;subst hk;have hlt':¬(A.wraps.length:Int)<(A.wraps.length:Int):=by omega
    refine Ab (A5 @s1 @s81 @s82 @s83 @hlt') ?_;exact Ad
theorem ZiU(c:Chn)(l:List Int)(n:Nat)(b:Bool)(hl:l.length≤1000000)(hi:∀x∈l,-9223372036854775808≤x∧x≤9223372036854775807)(k:AC prog 34 [AG c,.fm (Dq (Fe l)),.it .i64 (n:Int)] [] (.bo b) []):
  AC prog 13 [AG c,AP l,.it .i64 (n:Int)] [] (.bo b) []:=by
 have kh:=Zff l hl hi;have hok:=VE (Fe l) 0;generalize Dq (Fe l)=E at *;refine Ah [35,34] [] func13 ?_;refine run ?_;refine cp kh ?_;refine run ?_;refine cp k ?_;refine run ?_;exact Ad
def F5(bits:Int)(i:Nat):Bool:=Go.bits .and .i64 (bits.fdiv (2^i)) 1==1
def Dh(F:By→Option Chn)(bits:Int):Nat→List Int
 |0=>[]
 |i+1=>Dh F bits i++(if F5 bits i=true then match F (AE (i:Int))with
  |some c=>(List.range c.keys.length).map fun n=>(AF (i:Int) n).secret
  |none=>[]else [])
theorem S9(bits:Int)(i:Nat)(h:i≤60):El .i64 bits (i:Int)=some (.it .i64 (bits.fdiv (2^i))):=by
 unfold El;rw[if_pos (by omega),Int.toNat_natCast,show min i IntKind.i64.bits=i by simp only[IntKind.bits];omega]
theorem ZbI(L:List AV)(F:By→Option Chn)(bits:Int)(kF:∀id,AC prog 12 [.sl .ro L,.st id] [] (Oo (F id)) [])(hk:∀id c,F id=some c→c.keys.length≤90):
  AC prog 9 [.sl .ro L,.it .i64 bits] [] (AP (Dh F bits 4)) []:=by
 have hsec:∀i,Dh F bits (i+1)=Dh F bits i++(if F5 bits i=true then match F (AE (i:Int))with
  |some c=>(List.range c.keys.length).map fun n=>(AF (i:Int) n).secret
  |none=>[]else []):=fun _=>rfl
 have hlen:∀i,(Dh F bits i).length≤90*i:=fun i=>by
  induction i with
  |zero=>exact Nat.le_refl _
  | succ i ih=>
   rw[hsec,List.length_append]
   have:(if F5 bits i=true then match F (AE (i:Int))with
    |some c=>(List.range c.keys.length).map fun n=>(AF (i:Int) n).secret
    |none=>[]else([]:List Int)).length≤90:=by
    split
    ·split
     ·rename_i c hc
      rw[List.length_map,List.length_range];exact hk _ c hc
     ·exact Nat.zero_le _
    ·exact Nat.zero_le _
   omega
 have hZ0:Dh F bits 0=[]:=rfl;generalize Dh F bits=Z at *;refine Ah [11,12,29] [] func9 ?_;refine run ?_;refine Cq (fun m e S=>e 0=.sl .ro L∧e 1=.it .i64 bits ∧ ∃(i:Nat) (T:Ae),e 6=.it .i64 (i:Int)∧e 5=.sl (.own 0) ((Z i).map (AV.it .i64))∧S=.buf (Z i).length 3 1::T∧i≤4∧m=4-i) 4 _ _ (Ao.reserve 0 5 (es:=[]) (by rfl) 3 1)
  ⟨Aa,Aa,0,[],Aa,by rw[hZ0];exact Aa,by rw[hZ0];rfl,by omega,rfl⟩ ?_
 rintro m e S ⟨s0,s1,i,T,s6,s5,rfl,hi,rfl⟩
 have hT1:∀y:SObj,(T++[y])[T.length]? = some y:=fun y=>by simp
 have hT2:∀y z:SObj,(T++[y]).set T.length z=T++[z]:=fun y z=>by simp
 by_cases hlt:i<4
 rotate_left
 ·obtain rfl:i=4:=by omega
  have hlt':¬((4:Nat):Int)<4:=by omega
  refine Ab (A5 @s0 @s1 @s6 @s5 @hlt') ?_;exact Au
 have hlt':(i:Int)<4:=by omega
 have h0i:(0:Int)≤(i:Int):=by omega
 have w1:=AT (k:=i) (by omega)
 have ka:=Iv (i:Int) (by omega)
 have kk:=fun n (hn:n<100)=>L8 (i:Int) n (by omega) hn
 have hs:=hsec i;have hll:=hlen i;have kf:=kF (AE (i:Int));have hkl:=hk (AE (i:Int));have hsh:=S9 bits i (by omega)
 unfold F5 at hs;generalize AE (i:Int)=A at *;generalize bits.fdiv (2^i)=y at *;obtain⟨b,hb⟩:∃b,(Go.bits .and .i64 y 1==1)=b:=⟨_,rfl⟩
 rw[hb]at hs;cases hF:F A with
 | none=>
  rw[hF]at hs kf;change AC _ _ _ _ (.tup [AG XI,.bo false]) _ at kf;simp only[ite_self,List.append_nil]at hs;refine Ab (A5 @s0 @s1 @s6 @s5 @hlt') ?_;refine cp ka ?_;refine Ab (A4 @s0 @s1 @s6 @s5) ?_;refine cp kf ?_;cases b with
  |false=>
   refine Ab (A9 @s0 @s1 @s6 @s5 @hsh @hb @hT1 @hT2 @w1) ?_;exact Aj (4-(i+1)) (by omega) ⟨Aa,Aa,i+1,_,Aa,by rw[hs];exact Aa,by rw[hs],by omega,rfl⟩
  |true=>
   refine Ab (A9 @s0 @s1 @s6 @s5 @hsh @hb @hT1 @hT2 @w1) ?_;exact Aj (4-(i+1)) (by omega) ⟨Aa,Aa,i+1,_,Aa,by rw[hs];exact Aa,by rw[hs],by omega,rfl⟩
 | some c=>
  have hkl:=hkl c hF;rw[hF]at hs kf;change AC _ _ _ _ (.tup [AG c,.bo true]) _ at kf;cases b with
  |false=>
   rw[if_neg (by decide),List.append_nil]at hs
   refine Ab (A5 @s0 @s1 @s6 @s5 @hlt') ?_;refine cp ka ?_;refine Ab (A4 @s0 @s1 @s6 @s5) ?_;refine cp kf ?_;refine Ab (A9 @s0 @s1 @s6 @s5 @hsh @hb @hT1 @hT2 @w1) ?_;exact Aj (4-(i+1)) (by omega) ⟨Aa,Aa,i+1,_,Aa,by rw[hs];exact Aa,by rw[hs],by omega,rfl⟩
  | true=>
   rw[if_pos rfl]at hs;simp only at hs
   refine Ab (A5 @s0 @s1 @s6 @s5 @hlt') ?_;refine cp ka ?_;refine Ab (A4 @s0 @s1 @s6 @s5) ?_;refine cp kf ?_;refine Ab (A8 @s0 @s1 @s6 @s5 @hsh @hb @hT1 @hT2) ?_;refine AN (fun m e S=>e 0=.sl .ro L∧e 1=.it .i64 bits∧e 6=.it .i64 (i:Int)∧e 7=.ptr (T.length+1) 0 ∧ ∃(n:Nat) (acc:List Int) (U:Ae),e 9=.it .i64 (n:Int)∧e 5=.sl (.own 0) (acc.map (AV.it .i64))∧S=.buf acc.length 3 1::U∧U[T.length]? = some (.cells [.st c.id,Bu c.acts,.sl .ro (c.keys.map Bt),.st c.prev,.it .i64 c.gen,.bo c.fork])∧acc=Z i++(List.range n).map (fun n=>(AF (i:Int) n).secret)∧n≤c.keys.length∧m=c.keys.length-n) c.keys.length
    ⟨Aa,Aa,Aa,Aa,0,Z i,_,Aa,Aa,rfl,hT1 _,by simp,by omega,rfl⟩ ?_
   clear s0 s1 s6 s5;rintro m e S ⟨s0,s1,s6,s7,n,acc,U,s9,s5,rfl,hU,hacc,hn,rfl⟩
   have hal:acc.length≤500:=by rw[hacc,List.length_append,List.length_map,List.length_range];omega
   have hsa:AK 1 (acc.map (AV.it .i64))=true:=BG 1 (AV.it .i64) (fun _=>rfl) _
   by_cases hnl:n<c.keys.length
   ·have hnl':(n:Int)<(c.keys.length:Int):=by omega
    have w2:=AT (k:=n) (by omega)
    have kn:=kk n (by omega)
    have hst:acc++[(AF (i:Int) n).secret]=Z i++(List.range (n+1)).map (fun n=>(AF (i:Int) n).secret):=by
     rw[hacc,List.range_succ,List.map_append,List.append_assoc];rfl
    generalize AF (i:Int) n=k at *;refine Ab (A8 @s0 @s1 @s6 @s7 @s9 @s5 @hU @hnl') ?_;refine cp kn ?_;refine Ab (A8 @s0 @s1 @s6 @s7 @s9 @s5 @hsa @w2) ?_;exact Aj (c.keys.length-(n+1)) (by omega) ⟨Aa,Aa,Aa,Aa,n+1,acc++[k.secret],_,Aa,by rw[List.map_append];exact Aa,by rw[List.length_append];rfl,hU,hst,by omega,rfl⟩
   ·obtain rfl:n=c.keys.length:=by omega
    have hnl':¬(c.keys.length:Int)<(c.keys.length:Int):=by omega
    rw[←hs]at hacc;subst hacc;refine Ab (A9 @s0 @s1 @s6 @s7 @s9 @s5 @hU @hnl' @w1) ?_;exact Aj (4-(i+1)) (by omega) ⟨Aa,Aa,i+1,U,Aa,Aa,rfl,by omega,rfl⟩
end Pe
end
section
namespace Pe
open Tryz
open Go Go.RowKit Co Sg Ac It Sl Tp
set_option maxRecDepth 100000
set_option maxHeartbeats 8000000
def FA(l:List It.Item):List By:=Lib.compact ((l.map fun it=>it.act.author).mergeSort fun x y=>decide (x≤y))
theorem ZdV{l:List It.Item}{x:By}:x∈FA l↔x∈l.map fun it=>it.act.author:=by
 unfold FA;rw[ZdW,List.mem_mergeSort]
theorem Vx(l:List It.Item):(FA l).length≤l.length:=by
 have :=Xz ((l.map fun it=>it.act.author).mergeSort fun x y=>decide (x≤y))
 rw[List.length_mergeSort,List.length_map]at this;exact this
theorem Zho(F:By→Chn)(l:List By):AK 6 (l.map fun id=>AG (F id))=true:=BG 6 (fun id=>AG (F id)) (fun _=>rfl) _
theorem Pr(l:List By)(ty:TypeId)(n:Nat):(SObj.row (l.map AV.st) ty 1).ok n=true:=List.all_eq_true.2 fun x hx=>by
 obtain⟨y,_,rfl⟩:=List.mem_map.1 hx;rfl
theorem Zh7(ps:List Int)(l:List It.Item)(F:By→Chn)(h0:l≠[])(hl:l.length≤100)(hk:∀x∈l,(x.kind==0)=true)
  (kF:∀id∈FA l,AC prog 22 [EK ps l,.st id] [] (AG (F id)) []∧(F id).acts≠[]∧(F id).acts.length≤1000):
  AC prog 6 [EK ps l] [] (.sl .ro ((FA l).map fun id=>AG (F id))) []:=by
 have hsz:=Ji l;have hne:(l.map fun it=>it.act.author)≠[]:=fun e=>h0 (List.map_eq_nil_iff.1 e)
 have ksort:=SV (l.map fun it=>it.act.author) hne (by rw[List.length_map];omega)
 have kcomp:=XA ((l.map fun it=>it.act.author).mergeSort fun x y=>decide (x≤y)) (fun e=>hne (by have :=congrArg List.length e;rw[List.length_mergeSort,List.length_nil]at this;exact List.eq_nil_of_length_eq_zero this)) (by rw[List.length_mergeSort,List.length_map];omega)
 rw[List.length_mergeSort]at kcomp;change AC _ _ _ _ (.sl .ro ((FA l).map AV.st)) _ at kcomp;rw[List.length_map]at ksort kcomp;have hUl:=Vx l;generalize hU:FA l=U at *;clear hU;refine Ah [22] [] func6 ?_;refine run ?_;refine Cq (fun m e S=>e 1=.ptr 0 0∧e 2=.sl .full []∧e 11=.sl .ro (l.map Be)∧e 12=.it .i64 (l.length:Int) ∧ ∃(k:Nat) (T:Ae),e 13=.it .i64 (k:Int)∧e 3=.wr 1 k none∧S=.cells [AP ps,.sl .ro (l.map Be)]::.row ((l.take k).map fun it=>AV.st it.act.author) 9 1::T∧k≤l.length∧m=l.length-k) l.length _ _ (Ao.reserveRowT 0 3 (by rfl) 9 (sz:=1) (by decide))
  ⟨Aa,Aa,Aa,Aa,0,[],Aa,Aa,rfl,by omega,rfl⟩ ?_
 rintro m e S ⟨s1,s2,s11,s12,k,T,s13,s3,rfl,hkl,rfl⟩
 have hT1:∀y:SObj,(T++[y])[T.length]? = some y:=fun y=>by simp
 have hT2:∀y z:SObj,(T++[y]).set T.length z=T++[z]:=fun y z=>by simp
 have hrl:((l.take k).map fun it=>AV.st it.act.author).length=k*1:=by rw[List.length_map,List.length_take];omega
 by_cases hlt:k<l.length
 ·have hg:l[k]? = some l[k]:=List.getElem?_eq_getElem hlt
  have hlt':(k:Int)<(l.length:Int):=by omega
  have w1:=AT (k:=k) (by omega)
  have hk0:=hk l[k] (List.getElem_mem hlt);have htk:(l.take (k+1)).map (fun it=>AV.st it.act.author)=(l.take k).map (fun it=>AV.st it.act.author)++[.st l[k].act.author]:=by rw[List.take_succ_eq_append_getElem hlt,List.map_append];rfl
  generalize l[k]=it at *;refine Ab (an @s1 (an @s11 (An @s12 @s13 @s3 @hlt' @hg @hsz @hT1 @hT2 @hk0 @hrl @w1))) ?_;exact Aj (l.length-(k+1)) (by omega) ⟨Aa,Aa,Aa,Aa,k+1,_,Aa,Aa,by rw[htk];rfl,by omega,rfl⟩
 ·obtain rfl:k=l.length:=by omega
  have hlt':¬(l.length:Int)<(l.length:Int):=by omega
  rw[List.take_length,show(l.map fun it=>AV.st it.act.author)=(l.map fun it=>it.act.author).map AV.st by rw[List.map_map];rfl]
  refine Ab (A6 @s1 @s11 @s12 @s13 @s3 @hlt') ?_;refine D4 1 ksort ?_ (Pr _ _ _) (Pr _ _ _)
  refine Ab @s3 ?_;refine D4 1 kcomp ?_ (Pr _ _ _) rfl
  refine run ?_;refine Cq (fun m e S=>e 1=.ptr 0 0∧e 30=.sl .ro (U.map AV.st)∧e 31=.it .i64 (U.length:Int) ∧ ∃(k:Nat) (T:Ae),e 32=.it .i64 (k:Int)∧e 6=.sl (.own 1) ((U.take k).map fun id=>AG (F id))∧S=.cells [AP ps,.sl .ro (l.map Be)]::.buf k 37 6::T∧k≤U.length∧m=U.length-k) U.length
   (Bv (Bv (Bv (Bv (Bv (Bv (fun _=>.junk) 1 (.ptr 0 0)) 6 (.sl .full [])) 30 (.sl .ro (U.map AV.st))) 31 (.it .i64 (U.length:Int))) 32 (.it .i64 0)) 6 (.sl (.own 1) [])) [.cells [AP ps,.sl .ro (l.map Be)],.buf 0 37 6] ?_
   ⟨Aa,Aa,Aa,0,[],Aa,Aa,rfl,by omega,rfl⟩ ?_
  ·refine Ao.trans2 (Ao.pre 0 (S':=[.cells [AP ps,.sl .ro (l.map Be)]]) (T:=_::_) (((((IM.nil 1 _).cons 1 (.ptr 0 0) Aa).cons 6 (.sl .full []) Aa).cons 30 (.sl .ro (U.map AV.st)) Aa).cons 31 (.it .i64 (U.length:Int)) Aa |>.cons 32 (.it .i64 0) Aa) rfl) (Ao.reserve 0 6 rfl 37 6)
  clear s1 s2 s11 s12 s13 s3 hT1 hT2;rintro m e S ⟨s1,s30,s31,k,T,s32,s6,rfl,hkU,rfl⟩
  have hT1:∀y:SObj,(T++[y])[T.length]? = some y:=fun y=>by simp
  have hT2:∀y z:SObj,(T++[y]).set T.length z=T++[z]:=fun y z=>by simp
  have hT3:∀y z:SObj,(T++[y]++[z])[T.length]? = some y:=fun y z=>by simp
  have hT4:∀y z:SObj,(T++[y]++[z])[T.length+1]? = some z:=fun y z=>by simp
  have hT5:∀y z u:SObj,(T++[y]++[z]).set (T.length+1) u=T++[y]++[u]:=fun y z u=>by simp
  by_cases hlt:k<U.length
  ·have hg:U[k]? = some U[k]:=List.getElem?_eq_getElem hlt
   have hlt':(k:Int)<(U.length:Int):=by omega
   have h0k:(0:Int)≤(k:Int):=by omega
   have w1:=AT (k:=k) (by omega)
   obtain⟨kOf,hne2,hal⟩:=kF U[k] (List.getElem_mem hlt);have htk:(U.take (k+1)).map (fun id=>AG (F id))=(U.take k).map (fun id=>AG (F id))++[AG (F U[k])]:=by rw[List.take_succ_eq_append_getElem hlt,List.map_append];rfl
   have hsa:=Zho F (U.take k);have hkl2:((U.take k).map fun id=>AG (F id)).length=k:=by rw[List.length_map,List.length_take];omega
   have hpos:((F U[k]).acts.length:Int)>0:=by have :=List.length_pos_iff.2 hne2;omega
   generalize U[k]=id at *;generalize F id=c at *;refine Ab (BZ @s1 @s30 @s31 @s32 @s6 @hlt' @hg @h0k @hT1 @hT2) ?_;refine cp kOf ?_;refine Ab (an @s1 (an @s30 (an @s31 (An @s32 @s6 @hT1 @hT2 @hT3 @hT4 @hT5 @hpos @hsa @hkl2 @w1)))) ?_;exact Aj (U.length-(k+1)) (by omega) ⟨Aa,Aa,Aa,k+1,_,Aa,by rw[htk];exact Aa,rfl,by omega,rfl⟩
  ·obtain rfl:k=U.length:=by omega
   have hlt':¬(U.length:Int)<(U.length:Int):=by omega
   rw[List.take_length]at s6;refine Ab (A6 @s1 @s30 @s31 @s32 @s6 @hlt') ?_;exact Au
end Pe
end
section
namespace Pe
open Tryz
open Go Go.RowKit Co Sg Ac It Sl Tp Sr
set_option maxRecDepth 100000
set_option maxHeartbeats 4000000
def IX(ps:List Int)(l:List It.Item):List It.Item:=l.foldl (fun k it=>(C8 ps k it).1) []
theorem Zil{ps:List Int}{l:List It.Item}{it:It.Item}(h1:(It.right it&&It.signed ps it)=true)(h2:It.digest it∉l.map It.digest):(C8 ps l it).1.Perm (it::l):=by
 unfold C8;rw[if_pos h1]
 have:FY l (It.digest it)=false:=by
  unfold FY;rw[List.any_eq_false];intro x hx e;exact h2 (List.mem_map.2 ⟨x,hx,by simpa using e⟩)
 rw[if_neg (by rw[this];decide)]
 exact List.perm_middle.trans (by rw[List.take_append_drop])
theorem Tc(ps:List Int):∀(l acc:List It.Item),(∀x∈l,(It.right x&&It.signed ps x)=true)→((acc++l).map It.digest).Nodup→(l.foldl (fun k it=>(C8 ps k it).1) acc).Perm (acc++l)
 |[],acc,_,_=>by simp
 | x::l,acc,h,hd=>by
  have hx:It.digest x∉acc.map It.digest:=by
   rw[List.map_append,List.nodup_append]at hd;exact fun hm=>hd.2.2 _ hm (It.digest x) (by simp) rfl
  have hp:=Zil (l:=acc) (h x (by simp)) hx
  have h1:((C8 ps acc x).1++l).Perm (acc++x::l):=(hp.append_right l).trans List.perm_middle.symm;rw[List.foldl_cons];exact(Tc ps l _ (fun y hy=>h y (List.mem_cons_of_mem _ hy)) ((h1.map It.digest).nodup_iff.2 hd)).trans h1
theorem ZbH{ps:List Int}{k out:List Ac.Act}(hG:Grown k out):(IX ps (out.map Ay)).Perm (out.map Ay):=by
 have :=Tc ps (out.map Ay) [] (fun x hx=>by
  obtain⟨a,ha,rfl⟩:=List.mem_map.1 hx;have hr:Ac.right a=true:=by
   have hm:a∈Aw out a.author:=List.mem_filter.2 ⟨ha,beq_self_eq_true _⟩;obtain⟨j,hj⟩:=List.mem_iff_getElem?.1 hm;exact(E6 (hG.inv.ok a.author) hj).2.2.1
  have :=act_signed ps hr;rw[this.1,this.2];rfl) (by rw[List.nil_append,List.map_map];exact hG.inv.nodup)
 rwa[List.nil_append]at this
theorem Me{k out:List Ac.Act}(hG:Grown k out){a:Ac.Act}(ha:a∈out):Ac.right a=true:=by
 have hm:a∈Aw out a.author:=List.mem_filter.2 ⟨ha,beq_self_eq_true _⟩;obtain⟨j,hj⟩:=List.mem_iff_getElem?.1 hm;exact(E6 (hG.inv.ok a.author) hj).2.2.1
section
variable {ps:List Int} {k out:List Ac.Act} {l:List It.Item}
theorem Ziq(hG:Grown k out)(hl:l.Perm (out.map Ay))(id:By):(KD l id).Perm (Aw out id):=by
 unfold KD;refine((GD _).map _).trans ?_
 unfold EO;rw[List.map_map];have h1:(l.filter (Jl id)).Perm ((out.map Ay).filter (Jl id)):=hl.filter _;refine(h1.map _).trans ?_
 rw[List.filter_map,List.map_map];rw[show(((fun x:Fa=>x.val)∘fun it:It.Item=>(⟨it.act.seq,It.digest it,it.act⟩:Fa))∘Ay)=fun a=>a from rfl,List.map_id']
 refine List.Perm.of_eq (List.filter_congr fun a ha=>?_)
 show((Ay a).kind==0&&(Ay a).act.author==id&&It.right (Ay a))=(a.author==id)
 rw[(act_signed [] (Me hG ha)).1,Bool.and_true];rfl
theorem Zc9{id:By}{A L:List Ac.Act}(h:Ee id L)(hp:A.Perm L):OU A:=by
 refine((hp.map fun a=>(a.seq,a.prev)).nodup_iff).2 ?_
 refine List.pairwise_map.2 (List.pairwise_iff_getElem.2 fun i j hi hj hij e=>?_)
 have h1:=(E6 h (List.getElem?_eq_getElem hi)).1
 have h2:=(E6 h (List.getElem?_eq_getElem hj)).1
 have :=(Prod.mk.inj e).1;omega
theorem Zhk(hG:Grown k out)(hl:l.Perm (out.map Ay))(hol:out.length≤30)(hps:ps.length=4){id:By}(hid:Aw out id≠[]):
  AC prog 22 [EK ps l,.st id] [] (AG (AB id (Aw out id))) []:=by
 have hll:l.length=out.length:=by rw[hl.length_eq,List.length_map]
 have hok:Ee id (Aw out id):=hG.inv.ok id
 have hp:=Ziq (l:=l) hG hl id;have hmem:∀x∈l,∃a∈out,Ay a=x:=fun x hx=>List.mem_map.1 (hl.mem_iff.1 hx)
 have hz:∀x∈l,Iz x:=fun x hx=>by
  obtain⟨a,ha,rfl⟩:=hmem x hx;exact Dp (act_signed [] (Me hG ha)).1
 have hdn:(l.map It.digest).Nodup:=by
  refine((hl.map It.digest).nodup_iff).2 ?_
  rw[List.map_map];exact hG.inv.nodup
 have hbl:(Aw out id).length≤out.length:=List.length_filter_le _ _
 have kA:=Zir ps l id (by omega) hz (by
  unfold EO;rw[List.length_map];have :=List.length_filter_le (Jl id) l;omega) hdn
 have kw:=Zah ps l id 0 hps (by omega) (fun x hx=>by obtain⟨a,_,rfl⟩:=hmem x hx;rfl)
 obtain⟨a0,L,hL⟩:∃a0 L,Aw out id=a0::L:=by
  cases h:Aw out id with
  |nil=>exact absurd h hid
  |cons a L=>exact⟨a,L,rfl⟩
 have h0:=hok 0 a0 (by rw[hL];rfl)
 unfold stepOk at h0;rw[List.take_zero,if_pos rfl]at h0;have hruns:=Tn hok hp (Aw out id).length 1 (by decide) (by rw[hL];simp) (by omega)
 rw[show(Aw out id).take 1=[a0] by rw[hL];rfl]at hruns
 refine Zhj ps (l.map Be) id (KD l id) a0 _ Ei (Aw out id).length kA kw (fun a ha=>?_) (Zc9 hok hp) ?_ (by rw[hp.length_eq];omega) (by omega) (hp.mem_iff.2 (by rw[hL];simp)) h0 hruns
 ·have :=hp.mem_iff.1 ha
  exact Me hG (List.mem_filter.1 this).1
 ·refine((hp.map dg).nodup_iff).2 ?_
  exact hG.inv.nodup.sublist ((List.filter_sublist).map dg)
theorem YF(hG:Grown k out)(hl:l.Perm (out.map Ay))(hol:out.length≤30)(hps:ps.length=4)(h0:out≠[]):
  AC prog 6 [EK ps l] [] (.sl .ro ((FA l).map fun id=>AG (AB id (Aw out id)))) [] ∧ ∀id,id∈FA l↔Aw out id≠[]:=by
 have hll:l.length=out.length:=by rw[hl.length_eq,List.length_map]
 have hiff:∀id,id∈FA l↔Aw out id≠[]:=fun id=>by
  rw[ZdV,List.mem_map];constructor
  ·rintro⟨x,hx,e⟩ hn
   obtain⟨a,ha,rfl⟩:=List.mem_map.1 (hl.mem_iff.1 hx)
   have:a∈Aw out id:=List.mem_filter.2 ⟨ha,by rw[←e];exact beq_self_eq_true _⟩
   rw[hn]at this;simp at this
  ·intro hn
   obtain⟨a,ha⟩:=List.exists_mem_of_ne_nil _ hn;obtain⟨h1,h2⟩:=List.mem_filter.1 ha;exact⟨Ay a,hl.mem_iff.2 (List.mem_map.2 ⟨a,h1,rfl⟩),beq_iff_eq.1 h2⟩
 refine⟨Zh7 ps l (fun id=>AB id (Aw out id)) (fun e=>h0 (by rw[e]at hll;exact List.eq_nil_of_length_eq_zero hll.symm)) (by omega) (fun x hx=>?_) (fun id hid=>⟨Zhk hG hl hol hps ((hiff id).1 hid),?_,?_⟩),hiff⟩
 ·obtain⟨a,_,rfl⟩:=List.mem_map.1 (hl.mem_iff.1 hx)
  rfl
 ·rw[Cr]
  exact(hiff id).1 hid
 ·rw[Cr]
  have:(Aw out id).length≤out.length:=List.length_filter_le _ _
  omega
end
end Pe
end
end Go.Proofs.YtipfggegddlgdaaGreatDoor
