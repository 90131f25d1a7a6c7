import Derived.Test.YtipfggegddlgdaaGreatDoorKw30
import Derived.Test.YtipfggegddlgdaaGreatDoorKw31
import Derived.Below
import Derived.ChangeSame
import Derived.Test.YtipfggegddlgdaaGreatDoorCards
import Derived.Test.YtipfggegddlgdaaGreatDoorTie
import Derived.WalkKit
import Derived.ProofKit
import Derived.OpenShut
import Derived.Deep.DeepHandedRow
import Derived.Lib.LaidTab
import Derived.Stop.LaidErr
import Derived.ShutString
set_option linter.unusedSectionVars false
set_option linter.unusedVariables false
set_option linter.unusedSimpArgs false
namespace Go.Proofs.YtipfggegddlgdaaGreatDoor
section
namespace Pe
open _root_.Go.Proofs.Tryz
open Go Go.RowKit Co Sg Ac It Sl Tp
set_option maxRecDepth 100000
set_option maxHeartbeats 4000000
theorem Zim{ps:List Int}{l:List It.Item}{it x:It.Item}(h:x∈(C8 ps l it).1):x=it∨x∈l:=by
 unfold C8 at h;split at h
 ·split at h
  ·exact .inr h
  ·rcases List.mem_append.1 h with h|h
   ·exact .inr (List.mem_of_mem_take h)
   ·rcases List.mem_cons.1 h with h|h
    ·exact .inl h
    ·exact .inr (List.mem_of_mem_drop h)
 ·exact .inr h
theorem Zin(ps:List Int)(l:List It.Item)(it:It.Item):(C8 ps l it).1.length≤l.length+1:=by
 unfold C8;have :=PX l (It.digest it);split
 ·split
  ·exact Nat.le_succ _
  ·simp only[List.length_append,List.length_cons,List.length_take,List.length_drop]
   omega
 ·exact Nat.le_succ _
theorem SI:∀p∈BH,-9223372036854775808≤p∧p≤9223372036854775807:=by
 have hk:∀n,-9223372036854775808≤(Dw n).pub∧(Dw n).pub≤9223372036854775807:=fun n=>by
  obtain⟨h1,h2,h3⟩:=Key.right_iff.1 (ZaW n);have :=GG 37 (Dw n).secret.toNat;omega
 intro p hp;unfold BH at hp;simp only[List.mem_cons,List.not_mem_nil,or_false]at hp;rcases hp with rfl|rfl|rfl|rfl<;>exact hk _
theorem ZbF(l:List It.Item)(hl:l.length≤900)(hz:∀x∈l,Iz x):AC prog 7 [.sl .ro (l.map Be)] [] (EK BH (IX BH l)) []:=by
 have kp:=Pd;have kn:=Uw BH (by decide)
 have hsz:=Ji l;have hpr:=SI;have hst:∀k (h:k<l.length),(l.take (k+1)).foldl (fun k it=>(C8 BH k it).1) []=(C8 BH ((l.take k).foldl (fun k it=>(C8 BH k it).1) []) l[k]).1:=fun k h=>by
  rw[List.take_succ_eq_append_getElem h,List.foldl_append];rfl
 have hin:∀k,k≤l.length→((l.take k).foldl (fun k it=>(C8 BH k it).1) []).length≤k ∧ ∀x∈(l.take k).foldl (fun k it=>(C8 BH k it).1) [],Iz x:=by
  intro k;induction k with
  |zero=>exact fun _=>⟨Nat.le_refl _,fun x hx=>by simp at hx⟩
  |succ k ih=>
   intro hk;obtain⟨h1,h2⟩:=ih (by omega)
   rw[hst k (by omega)]
   refine⟨Nat.le_trans (Zin _ _ _) (by omega),fun x hx=>?_⟩
   rcases Zim hx with rfl|hx
   ·exact hz _ (List.getElem_mem (by omega))
   ·exact h2 x hx
 have hend:(l.take l.length).foldl (fun k it=>(C8 BH k it).1) []=IX BH l:=by rw[List.take_length];rfl
 generalize hH:(fun k:Nat=>(l.take k).foldl (fun k it=>(C8 BH k it).1) [])=H at *
 have hH':∀k,(l.take k).foldl (fun k it=>(C8 BH k it).1) []=H k:=fun k=>by rw[←hH]
 have hH0:H 0=[]:=by rw[←hH' 0];rfl
 simp only[hH']at hst hend hin;clear hH hH';rw[←hend];have ka:=fun k it (h1:k<l.length) (h2:Iz it)=>YH BH (H k) it hpr (by have :=(hin k (by omega)).1;omega) (hin k (by omega)).2 h2
 clear hpr;generalize BH=ps at *;refine Ah [17,16,15] [] func7 ?_;refine run ?_;refine cp kp ?_;refine run ?_;refine cp kn ?_;refine run ?_;refine AN (fun m e S=>e 0=.sl .ro (l.map Be)∧e 2=.ptr 0 0∧e 3=.ptr 1 0 ∧ ∃k:Nat,e 4=.it .i64 (k:Int)∧S=[.cells [.sl .full [],.sl .full []],.cells [AP ps,.sl .ro ((H k).map Be)]]∧k≤l.length∧m=l.length-k) l.length ⟨Aa,Aa,Aa,0,Aa,by rw[hH0];rfl,by omega,rfl⟩ ?_
 rintro m e S ⟨s0,s2,s3,k,s4,rfl,hk,rfl⟩
 rw[Db s2];by_cases hlt:k<l.length
 ·have hg:l[k]? = some l[k]:=List.getElem?_eq_getElem hlt
  have hlt':(k:Int)<(l.length:Int):=by omega
  have h0:(0:Int)≤(k:Int):=by omega
  have w1:=AT (k:=k) (by omega)
  have kx:=ka k l[k] hlt (hz _ (List.getElem_mem hlt));rw[←hst k hlt]at kx;generalize l[k]=it at *;refine Ab (A8 @s0 @s2 @s3 @s4 @hlt' @h0 @hg @hsz) ?_;refine cp kx ?_;refine Ab (A5 @s0 @s2 @s3 @s4 @w1) ?_;exact Aj (l.length-(k+1)) (by omega) ⟨Aa,Aa,Aa,k+1,Aa,rfl,by omega,rfl⟩
 ·obtain rfl:k=l.length:=by omega
  have hlt':¬(l.length:Int)<(l.length:Int):=by omega
  refine Ab (A5 @s0 @s2 @s3 @s4 @hlt') ?_;exact Ad
theorem Zh8(ps:List Int):AC prog 6 [EK ps []] [] (.sl .ro []) []:=by
 have kS:=SW;have kC:=XB;refine Ah [22] [] func6 ?_;refine run ?_;refine Cq (fun m e S=>e 3=.wr 1 0 none∧e 12=.it .i64 0∧e 13=.it .i64 0∧S=[.cells [AP ps,.sl .ro []],.row [] 9 1]) 0 _ _ (Ao.reserveRowT 0 3 (by rfl) 9 (sz:=1) (by decide)) ⟨Aa,Aa,Aa,rfl⟩ ?_
 rintro m e S ⟨s3,s12,s13,rfl⟩
 refine Ab (A3 @s3 @s12 @s13) ?_;refine D4 1 kS ?_ rfl rfl
 refine Ab @s3 ?_;refine D4 1 kC ?_ rfl rfl
 refine run ?_;refine Fz ?_
 refine run ?_;exact Au
end Pe
end
section
namespace Pe
open _root_.Go.Proofs.Tryz
open Go Go.RowKit Co Sg Ac It Sl Tp
set_option maxRecDepth 100000
set_option maxHeartbeats 4000000
theorem Tl:Ac.right (Is 1 0 0)=true:=by decide +kernel
theorem Zbm:AC prog 4 [] [] (.bo true) []:=by
 have hkr:=Qo ([97,99,116,111,114,32]++D1 (AL 1 4).toNat++[32]++D1 0);have hver:BO (AF 1 0).pub (Bi 1 0 0)=true:=S6 (a:=Is 1 0 0) (k:=AF 1 0) Tl hkr;have hra:Ac.right (Bi 1 0 0)=true:=by
  unfold BO at hver;rw[Bool.and_eq_true]at hver;exact hver.1
 have hsg:Bi 1 0 0={ Is 1 0 0 with sig:=EF (AF 1 0) (Bx (Is 1 0 0)) }:=by
  show Bs (AF 1 0) (Is 1 0 0)=_
  unfold Bs;simp only
  rw[if_pos (by rw[Bool.and_eq_true];exact⟨Tl,hkr⟩)]
  rfl
 have hn:(Bi 1 0 0).n=(AF 1 0).pub:=by rw[hsg];rfl
 have hm:(Bi 1 0 0).m=0:=by rw[hsg];rfl
 have hau:(Bi 1 0 0).author=AE 1:=by rw[hsg];rfl
 have hk:(Bi 1 0 0).kind=0:=by rw[hsg];rfl
 have hid:CL (Bi 1 0 0).n=(Bi 1 0 0).author:=by rw[hn,hau];rfl
 have k1:=Rj 1 0 0 (by decide)
 have k2:=Pd;have k3:=Uw BH (by decide)
 have k6:=Iv 1 (by decide)
 rw[←hau]at k6;have hmk:B4 [] 0 0 ⟨1,0,0,0,[],11⟩=Bi 1 0 0:=rfl;have hck:ES [] 0 (B4 [] 0 0 ⟨1,0,0,0,[],11⟩)=0:=by
  rw[hmk];rw[←hn]at hver;generalize Bi 1 0 0=a at *;have h0:Bc [] a.author=⟨a.author,[],[],[],0,false⟩:=rfl;unfold ES;rw[h0,hra,hver];simp only[hk,hm,hid];rw[if_neg (by decide),if_neg (by simp[Ff]),if_pos trivial,if_neg (by decide),if_neg (by simp),if_neg (by simp),if_neg (by decide)]
 have hG:=Grown.step VM Oj hck;rw[hmk,List.nil_append]at hG;have hsgn:=act_signed BH hra;have k4:=YH BH [] (Ay (Bi 1 0 0)) SI (Nat.zero_le _) (fun x hx=>by simp at hx) (Dp hsgn.1)
 rw[show C8 BH [] (Ay (Bi 1 0 0))=([Ay (Bi 1 0 0)],true) by
  unfold C8;rw[hsgn.1,hsgn.2];rfl]at k4
 simp only at k4
 have hby:Aw [Bi 1 0 0] (Bi 1 0 0).author=[Bi 1 0 0]:=by simp[Aw]
 have k5:=(YF (l:=[Ay (Bi 1 0 0)]) (ps:=BH) hG (.refl _) (Nat.le_of_ble_eq_true rfl) rfl (by simp)).1
 have hids:FA [Ay (Bi 1 0 0)]=[(Bi 1 0 0).author]:=by
  unfold FA;rw[List.map_cons,List.map_nil,List.mergeSort_singleton,Xy (by simp)]
  rfl
 have hfo:AB (Bi 1 0 0).author [Bi 1 0 0]=⟨(Bi 1 0 0).author,[Bi 1 0 0],[⟨0,(Bi 1 0 0).n,(Bi 1 0 0).m⟩],dg (Bi 1 0 0),0,false⟩:=by
  show Bz (Tp.nilC _) _=_
  unfold Bz Tp.nilC;rw[hk];rfl
 rw[hids,List.map_cons,List.map_nil,hby,hfo]at k5;have k7:=P7 (Bi 1 0 0) (by have :=(Cp hra).to.1;omega) (by have :=(Cp hra).wraps.1;omega)
 have k8:=Ku (Ay (Bi 1 0 0)) (Dp (act_signed [] hra).1);change AC _ _ _ _ (.st (dg (Bi 1 0 0))) _ at k8;clear hver hsg hn hau hk hid hm hra hmk hck hG hsgn hby hids hfo;generalize Bi 1 0 0=a at *;generalize BH=ps at *;have q1:(dg a==dg a)=true:=beq_self_eq_true _;have q2:(a.author==a.author)=true:=beq_self_eq_true _;generalize dg a=d at *;refine Ah [14,17,16,18,15,6,11,19] [] func4 ?_;refine run ?_;refine cp k1 ?_;refine run ?_;refine cp k2 ?_;refine run ?_;refine cp k3 ?_;refine run ?_;refine cp k7 ?_;refine run ?_;refine cp k4 ?_;refine run ?_;refine cp k5 ?_;refine run ?_;refine cp k6 ?_;refine Ab @q2 ?_;refine cp k7 ?_;refine run ?_;refine cp k8 ?_;refine Ab @q1 ?_;exact Ad
end Pe
end
section
namespace Pe
open _root_.Go.Proofs.Tryz
open Go Go.RowKit Co Sg Ac It Sl Tp
set_option maxRecDepth 100000
set_option maxHeartbeats 4000000
def CQ(out:List Ac.Act)(id:By):Option Chn:=if Aw out id=[]then none else some (AB id (Aw out id))
theorem Ws{out:List Ac.Act}(id:By):∀ids:List By,(∀x,x∈ids→Aw out x≠[])→((ids.map fun x=>AB x (Aw out x)).find? fun c=>c.id==id)=if id∈ids then CQ out id else none
 |[],_=>rfl
 | x::ids,h=>by
  rw[List.map_cons,List.find?_cons,Jp]
  have ih:=Ws id ids fun y hy=>h y (List.mem_cons_of_mem _ hy)
  cases q:(x==id)with
  |true=>
   obtain rfl:=beq_iff_eq.1 q;rw[if_pos (by simp)]
   simp only
   unfold CQ;rw[if_neg (h x (by simp))]
  |false=>
   simp only
   rw[ih];have hx:id≠x:=fun e=>by rw[e]at q;simp at q
   have:(id∈x::ids)↔id∈ids:=by simp[hx]
   by_cases hi:id∈ids
   ·rw[if_pos hi,if_pos (this.2 hi)]
   ·rw[if_neg hi,if_neg (fun h'=>hi (this.1 h'))]
theorem ZfN{out:List Ac.Act}{ids:List By}(h:∀x,x∈ids↔Aw out x≠[])(id:By):((ids.map fun x=>AB x (Aw out x)).find? fun c=>c.id==id)=CQ out id:=by
 rw[Ws id ids fun x hx=>(h x).1 hx]
 by_cases hi:id∈ids
 ·rw[if_pos hi]
 ·rw[if_neg hi]
  unfold CQ;rw[if_pos (by
   cases hb:Aw out id with
   |nil=>rfl
   |cons a l=>exact absurd ((h id).2 (by rw[hb];simp)) hi)]
theorem Zie{acc:List Int}{p q:Int}:q∈OP acc p↔q∈acc∨q=p:=by
 unfold OP;split
 ·rename_i h
  constructor
  ·exact .inl
  ·rintro(h'|rfl)
   ·exact h'
   ·exact h
 ·simp
theorem Zfg{acc:List Int}{x q:Int}:q∈Gp acc x↔q∈acc∨((1≤x∧x≤2305843009213693949)∧q=(Ev 37 x:Nat)):=by
 unfold Gp;split
 ·rename_i h
  rw[Zie];simp[h]
 ·rename_i h
  simp[h]
theorem V7:∀(l:List Int) (acc:List Int) (q:Int),q∈l.foldl Gp acc↔q∈acc ∨ ∃x∈l,(1≤x∧x≤2305843009213693949)∧q=(Ev 37 x:Nat)
 |[],acc,q=>by simp
 | x::l,acc,q=>by
  rw[List.foldl_cons,V7 l,Zfg];simp only[List.mem_cons,exists_eq_or_imp];constructor
  ·rintro((h|h)|h)
   ·exact .inl h
   ·exact .inr (.inl h)
   ·exact .inr (.inr h)
  ·rintro(h|h|h)
   ·exact .inl (.inl h)
   ·exact .inl (.inr h)
   ·exact .inr h
theorem Zfh{l:List Int}{q:Int}:q∈Fe l ↔ ∃x∈l,(1≤x∧x≤2305843009213693949)∧q=(Ev 37 x:Nat):=by
 unfold Fe;rw[V7];simp
theorem NE(F:By→Option Chn)(bits:Int)(x:Int):∀n,x∈Dh F bits n ↔ ∃i,i<n∧F5 bits i=true ∧ ∃c,F (AE (i:Int))=some c ∧ ∃j,j<c.keys.length∧x=(AF (i:Int) j).secret
 |0=>by simp[Dh]
 | n +1=>by
  show x∈Dh F bits n++_↔_
  rw[List.mem_append,NE F bits x n];constructor
  ·rintro(⟨i,h1,h2⟩|h)
   ·exact⟨i,by omega,h2⟩
   ·split at h
    ·rename_i hb
     split at h
     ·rename_i c hc
      obtain⟨j,hj,rfl⟩:=List.mem_map.1 h;exact⟨n,Nat.lt_succ_self n,hb,c,hc,j,List.mem_range.1 hj,rfl⟩
     ·simp at h
    ·simp at h
  ·rintro⟨i,h1,hb,c,hc,j,hj,rfl⟩
   by_cases hi:i<n
   ·exact .inl ⟨i,hi,hb,c,hc,j,hj,rfl⟩
   ·obtain rfl:i=n:=by omega
    refine .inr ?_
    rw[if_pos hb,hc];exact List.mem_map.2 ⟨j,List.mem_range.2 hj,rfl⟩
theorem Ry(i:Int)(j:Nat):(1≤(AF i j).secret∧(AF i j).secret≤2305843009213693949)∧(AF i j).pub=(Ev 37 (AF i j).secret:Nat):=by
 obtain⟨h1,h2,h3⟩:=Key.right_iff.1 (MI i j).1;refine⟨⟨h1,h2⟩,?_⟩
 have e:(AF i j).secret=(((AF i j).secret.toNat:Nat):Int):=by omega
 rw[h3];conv=>rhs;rw[e]
 rw[Hp 37 37 _ rfl (by decide)]
theorem VC{out:List Ac.Act}(bits:Int)(p:Int):p∈Fe (Dh (CQ out) bits 4)↔MR out (fun i=>F5 bits i=true) p:=by
 rw[Zfh];constructor
 ·rintro⟨x,hx,hr,rfl⟩
  obtain⟨i,hi,hb,c,hc,j,hj,rfl⟩:=(NE _ _ _ 4).1 hx;unfold CQ at hc;split at hc
  ·cases hc
  ·rename_i hne
   cases hc
   exact⟨i,hi,hb,hne,j,hj,(Ry i j).2.symm⟩
 ·rintro⟨i,hi,hb,hne,j,hj,rfl⟩
  refine⟨_,(NE _ _ _ 4).2 ⟨i,hi,hb,AB (AE i) (Aw out (AE i)),?_,j,hj,rfl⟩,(Ry i j).1,(Ry i j).2⟩
  unfold CQ;rw[if_neg hne]
def HD(out:List Ac.Act)(c:Chn)(a:Ac.Act)(n:Nat)(bits:Int)(j:Nat):Bool:=(List.range j).any fun i=>F5 bits i&&Jc c a n (AE (i:Int))&&(CQ out (AE (i:Int))).isSome
theorem Qq{a:Ac.Act}(h:a.kind=1∨a.kind=2∨a.kind=3∨a.kind=14):Jk a:=by
 rcases h with h|h|h|h
 ·exact .inl (by rw[h];rfl)
 ·exact .inl (by rw[h];rfl)
 ·exact .inl (by rw[h];rfl)
 ·exact .inr h
structure TextOk(c:Chn)(n:Nat)(a:Ac.Act):Prop where
 well:a.scope=0∨(a.scope=1∧a.group=[]∧AS c n=(a.epoch,AR c n,true))
 sld:a.scope≠0→(Bb c n).2=true∧(Bb c n).1<n∧(c.acts.getD (Bb c n).1 Al).epoch=a.epoch∧(CI c (Bb c n).1).2=true
theorem ZaP{k out:List Ac.Act}(hG:Grown k out)(hl:out.length≤24){id:By}{n:Nat}{a:Ac.Act}(ha:(Aw out id)[n]? = some a)(hk:a.kind=1∨a.kind=2∨a.kind=3∨a.kind=14):
  TextOk (AB id (Aw out id)) n a:=by
 by_cases hs:a.scope=0
 ·exact⟨.inl hs,fun h=>absurd hs h⟩
 ·obtain⟨h1,h2,h3,h4,h5,h6,h7,_⟩:=TN hG Oj Va hl (fun _=>True) ha hk hs
  refine⟨.inr ⟨h1,h2,?_⟩,fun _=>⟨h3,h4,h5,h7⟩⟩
  unfold AS;rw[if_pos h3,h5,h6]
def LG(c:Chn)(a:Ac.Act)(G:List Int)(n:Nat):Bool:=if a.scope=0 then true else LH c G n
theorem Zei{k out:List Ac.Act}(hG:Grown k out)(hl:out.length≤24)(bits:Int){id:By}{n:Nat}{a:Ac.Act}(ha:(Aw out id)[n]? = some a)(hk:a.kind=1∨a.kind=2∨a.kind=3∨a.kind=14):
  LG (AB id (Aw out id)) a (Fe (Dh (CQ out) bits 4)) n=((a.scope==0)||HD out (AB id (Aw out id)) a n bits 4):=by
 unfold LG;by_cases hs:a.scope=0
 ·rw[if_pos hs,hs]
  rfl
 ·rw[if_neg hs,show(a.scope==0)=false from beq_eq_false_iff_ne.2 hs,Bool.false_or]
  obtain⟨_,_,_,_,_,_,_,h8⟩:=TN hG Oj Va hl (fun i=>F5 bits i=true) ha hk hs
  rw[Bool.eq_iff_iff];have e1:LH (AB id (Aw out id)) (Fe (Dh (CQ out) bits 4)) n=true↔(MR out (fun i=>F5 bits i=true) (CI (AB id (Aw out id)) (Bb (AB id (Aw out id)) n).1).1.pub ∨ ∃w∈((AB id (Aw out id)).acts.getD (Bb (AB id (Aw out id)) n).1 Al).wraps,MR out (fun i=>F5 bits i=true) w.to):=by
   unfold LH;rw[Bool.or_eq_true,List.contains_iff_mem,VC,List.any_eq_true];simp only[List.contains_iff_mem,VC]
  rw[e1,h8];unfold HD;rw[List.any_eq_true];have e2:∀i:Nat,(Jc (AB id (Aw out id)) a n (AE (i:Int))=true)↔(AE (i:Int)=id∨AE (i:Int)∈AR (AB id (Aw out id)) n):=fun i=>by
   unfold Jc;rw[Jp,show(a.scope==0)=false from beq_eq_false_iff_ne.2 hs,Bool.false_or,Bool.or_eq_true,beq_iff_eq,List.contains_iff_mem]
  have e3:∀i:Nat,((CQ out (AE (i:Int))).isSome=true)↔Aw out (AE (i:Int))≠[]:=fun i=>by
   unfold CQ;split
   ·rename_i h;simp[h]
   ·rename_i h;simp[h]
  constructor
  ·rintro⟨i,hi,hb,hne,hm⟩
   refine⟨i,List.mem_range.2 hi,?_⟩
   rw[Bool.and_eq_true,Bool.and_eq_true];exact⟨⟨hb,(e2 i).2 hm⟩,(e3 i).2 hne⟩
  ·rintro⟨i,hi,h⟩
   rw[Bool.and_eq_true,Bool.and_eq_true]at h;exact⟨i,List.mem_range.1 hi,h.1.1,(e3 i).1 h.2,(e2 i).1 h.1.2⟩
end Pe
end
section
namespace Pe
open _root_.Go.Proofs.Tryz
open Go Go.RowKit Co Sg Ac It Sl Tp
set_option maxRecDepth 100000
set_option maxHeartbeats 8000000
structure Wi(w:Wish):Prop where
 who:Em w.who
 kind:Em w.kind
 on:Em w.on
 whom:Em w.whom
 spoil:Em w.spoil
theorem QC:∀(l:List Wish) (i:Int) (k out:List Ac.Act),(FB i l k out).length≤out.length+l.length
 |[],_,_,_=>Nat.le_refl _
 | w::l,i,k,out=>by
  rw[VN,List.length_cons];split
  ·have :=QC l (i+1) (DJ k (B4 k (Eh k w) i w)).1 (out++[B4 k (Eh k w) i w])
   rw[List.length_append,List.length_singleton]at this;omega
  ·have :=QC l (i+1) k out
   omega
theorem ZfF(id:By)(L:List Ac.Act):(AB id L).keys.length≤L.length:=by
 refine Pu (p:=fun L=>(AB id L).keys.length≤L.length) (Nat.le_refl _) (fun L a ih=>?_) L
 rw[Ii,MD];split
 ·rw[List.length_append,List.length_append];exact Nat.add_le_add_right ih 1
 ·rw[List.length_append];omega
structure ChOk(out:List Ac.Act)(bits:Int)(c:Chn):Prop where
 len:c.acts.length≤24
 klen:c.keys.length≤24
 rts:Bg c.acts
 txt:∀n a,c.acts[n]? = some a→(a.kind=1∨a.kind=2∨a.kind=3∨a.kind=14)→TextOk c n a∧LG c a (Fe (Dh (CQ out) bits 4)) n=((a.scope==0)||HD out c a n bits 4)
theorem Zhq{k out:List Ac.Act}(hG:Grown k out)(hl:out.length≤24)(bits:Int)(id:By):ChOk out bits (AB id (Aw out id)):=by
 have hbl:(Aw out id).length≤out.length:=List.length_filter_le _ _
 refine⟨by rw[Cr];omega,Nat.le_trans (ZfF _ _) (by omega),fun a ha=>?_,fun n a ha hk=>?_⟩
 ·rw[Cr]at ha
  exact Me hG (List.mem_filter.1 ha).1
 ·rw[Cr]at ha
  exact⟨ZaP hG hl ha hk,Zei hG hl bits ha hk⟩
theorem Te(F:By→Option Chn)(bits:Int)(hk:∀id c,F id=some c→c.keys.length≤90):∀n,(Dh F bits n).length≤90*n
 |0=>Nat.le_refl _
 | i+1=>by
  unfold Dh;rw[List.length_append];refine Nat.le_trans (Nat.add_le_add (Te F bits hk i) (?_:_≤90)) (by omega)
  split
  ·split
   ·rename_i c hc
    rw[List.length_map,List.length_range];exact hk _ c hc
   ·exact Nat.zero_le _
  ·exact Nat.zero_le _
theorem ZcV(ws:List Wish)(bits:Int)(hlw:ws.length≤140737488355328)(hw:∀w∈ws,Wi w)(hbits:Em bits):
  AC prog 3 [.sl .ro (ws.map En),.it .i64 bits] [] (.bo true) []:=by
 have hs:=Zbm;have kb:=ZhQ ws 24 hlw;cases hb:(decide ((ws.length:Int)≤24)&&ws.all fun w=>decide (w.txt.length≤200))with
 |false=>
  rw[hb]at kb;refine Ah [4,5,8,7,6,9,10,11,12,13] [] func3 ?_;refine run ?_;refine cp hs ?_;refine run ?_;refine cp kb ?_;refine run ?_;exact Ad
 |true=>
 rw[hb]at kb;rw[Bool.and_eq_true,decide_eq_true_eq,List.all_eq_true]at hb;have hw24:ws.length≤24:=by omega
 have hwz:∀w∈ws,Wz w:=fun w hx=>⟨(hw w hx).who,(hw w hx).kind,(hw w hx).on,(hw w hx).whom,of_decide_eq_true (hb.2 w hx),(hw w hx).spoil⟩
 have kg:=Zfk ws hw24 hwz;have hgl:=QC ws 0 [] [];simp only[List.length_nil,Nat.zero_add]at hgl;obtain⟨K,hG⟩:=QD Oj ws 0 [] [] VM;generalize FB 0 ws [] []=G at *;have hG24:G.length≤24:=by omega
 have hGz:∀x∈G.map Ay,Iz x:=fun x hx=>by
  obtain⟨a,ha,rfl⟩:=List.mem_map.1 hx;exact Dp (act_signed [] (Me hG ha)).1
 have kset:=ZbF (G.map Ay) (by rw[List.length_map];omega) hGz
 rw [List.map_map]at kset;change AC _ _ [.sl .ro (G.map Ba)] _ _ _ at kset;have hperm:=ZbH (ps:=BH) hG;obtain⟨L,kall,hF,hch⟩:∃L:List Chn,AC prog 6 [EK BH (IX BH (G.map Ay))] [] (.sl .ro (L.map AG)) []∧(∀id,L.find? (fun c=>c.id==id)=CQ G id)∧(L.length≤24 ∧ ∀c∈L,ChOk G bits c):=by
  by_cases h0:G=[]
  ·subst h0
   refine⟨[],Zh8 BH,fun id=>rfl,by decide,fun c hc=>nomatch hc⟩
  ·obtain⟨h1,h2⟩:=YF (ps:=BH) hG hperm (by omega) rfl h0
   refine⟨(FA (IX BH (G.map Ay))).map fun id=>AB id (Aw G id),by rw[List.map_map];exact h1,fun id=>ZfN h2 id,?_,fun c hc=>?_⟩
   ·rw[List.length_map]
    have :=Vx (IX BH (G.map Ay));rw[hperm.length_eq,List.length_map]at this;omega
   ·obtain⟨id,_,rfl⟩:=List.mem_map.1 hc
    exact Zhq hG hG24 bits id
 obtain⟨hL24,hch⟩:=hch;have kF:∀id,AC prog 12 [.sl .ro (L.map AG),.st id] [] (Oo (CQ G id)) []:=fun id=>by
  have :=Zht L id (by omega)
  rwa[hF id]at this
 have ksec:=ZbI (L.map AG) (CQ G) bits kF (fun id c hc=>by
  have :=hF id;rw[hc]at this;have :=(hch c (List.mem_of_find?_eq_some this)).klen
  omega)
 have hsecl:(Dh (CQ G) bits 4).length≤1000000 ∧ ∀x∈Dh (CQ G) bits 4,-9223372036854775808≤x∧x≤9223372036854775807:=by
  constructor
  ·have :=Te (CQ G) bits (fun id c hc=>by
    have :=hF id;rw[hc]at this;have :=(hch c (List.mem_of_find?_eq_some this)).klen
    omega) 4
   omega
  ·intro x hx
   obtain⟨i,_,_,c,_,j,_,rfl⟩:=(NE _ _ _ 4).1 hx;have :=(MI i j).2.1;omega
 have hch:∀c∈L,c.acts.length≤24∧c.keys.length≤24∧Bg c.acts ∧ ∀n a,c.acts[n]? = some a→(a.kind=1∨a.kind=2∨a.kind=3∨a.kind=14)→TextOk c n a∧LG c a (Fe (Dh (CQ G) bits 4)) n=((a.scope==0)||HD G c a n bits 4):=fun c hc=>⟨(hch c hc).len,(hch c hc).klen,(hch c hc).rts,(hch c hc).txt⟩
 clear hG hperm hGz hwz hb hF hgl hw;generalize Dh (CQ G) bits 4=Ks at *;have hLsz:=XH L;generalize BH=ps at *;generalize IX ps (G.map Ay)=kn at *;have hany:∀c a n j,HD G c a n bits (j+1)=(HD G c a n bits j||(F5 bits j&&Jc c a n (AE (j:Int))&&(CQ G (AE (j:Int))).isSome)):=fun c a n j=>by
  unfold HD;rw[List.range_succ,List.any_append];simp
 have hany0:∀c a n,HD G c a n bits 0=false:=fun c a n=>rfl
 generalize HD G=AJ at *;generalize CQ G=F at *;refine Ah [4,5,8,7,6,9,10,11,12,13] [] func3 ?_;refine run ?_;refine cp hs ?_;refine run ?_;refine cp kb ?_;refine run ?_;refine cp kg ?_;refine run ?_;refine cp kset ?_;refine run ?_;refine cp kall ?_;refine run ?_;refine cp ksec ?_;refine run ?_;clear hs kb kg kset kall ksec;refine AN (fun m e S=>e 1=.it .i64 bits∧e 5=.bo true∧e 7=.sl .ro (L.map AG)∧e 8=AP Ks ∧ ∃i:Nat,e 9=.it .i64 (i:Int)∧i≤L.length∧m=L.length-i) L.length ⟨Aa,Aa,Aa,Aa,0,Aa,by omega,rfl⟩ ?_
 rintro m e T ⟨s1,s5,s7,s8,i,s9,hi,rfl⟩
 by_cases hil:i<L.length
 rotate_left
 ·obtain rfl:i=L.length:=by omega
  have hil':¬(L.length:Int)<(L.length:Int):=by omega
  refine Ab (A6 @s1 @s5 @s7 @s8 @s9 @hil') ?_;exact Ad
 have hil':(i:Int)<(L.length:Int):=by omega
 have hi0:(0:Int)≤(i:Int):=by omega
 have wi1:=AT (k:=i) (by omega)
 have hgc:L[i]? = some L[i]:=List.getElem?_eq_getElem hil
 obtain⟨hcl,hckl,hcr,hctx⟩:=hch L[i] (List.getElem_mem hil);generalize L[i]=c at *;have hasz:=BX c.acts;refine Ab (A6 @s1 @s5 @s7 @s8 @s9 @hil') ?_;refine AN (fun m e S=>e 1=.it .i64 bits∧e 5=.bo true∧e 7=.sl .ro (L.map AG)∧e 8=AP Ks∧e 9=.it .i64 (i:Int) ∧ ∃n:Nat,e 10=.it .i64 (n:Int)∧n≤c.acts.length∧m=c.acts.length-n) c.acts.length ⟨Aa,Aa,Aa,Aa,Aa,0,Aa,by omega,rfl⟩ ?_
 clear s1 s5 s7 s8 s9;rintro m e T ⟨s1,s5,s7,s8,s9,n,s10,hn,rfl⟩
 by_cases hnl:n<c.acts.length
 rotate_left
 ·obtain rfl:n=c.acts.length:=by omega
  have hnl':¬(c.acts.length:Int)<(c.acts.length:Int):=by omega
  refine Ab (an @s1 (An @s5 @s7 @s8 @s9 @s10 @hil' @hi0 @hgc @hLsz @hnl' @wi1)) ?_;exact Aj (L.length-(i+1)) (by omega) ⟨Aa,Aa,Aa,Aa,i+1,Aa,by omega,rfl⟩
 have hnl':(n:Int)<(c.acts.length:Int):=by omega
 have hn0:(0:Int)≤(n:Int):=by omega
 have wn1:=AT (k:=n) (by omega)
 have hga:c.acts[n]? = some c.acts[n]:=List.getElem?_eq_getElem hnl
 generalize c.acts[n]=a at *;by_cases hk:a.kind=1∨a.kind=2∨a.kind=3∨a.kind=14
 rotate_left
 ·have q1:(a.kind==1)=false:=Cb (fun h=>hk (.inl h))
  have q2:(a.kind==2)=false:=Cb (fun h=>hk (.inr (.inl h)))
  have q3:(a.kind==3)=false:=Cb (fun h=>hk (.inr (.inr (.inl h))))
  have q4:(a.kind==14)=false:=Cb (fun h=>hk (.inr (.inr (.inr h))))
  refine Ab (an @s1 (an @s5 (an @s7 (an @s8 (an @s9 (an @s10 (an @hil' (an @hi0 (An @hgc @hLsz @hnl' @hn0 @hga @hasz @q1 @q2 @q3 @q4 @wn1))))))))) ?_;exact Aj (c.acts.length-(n+1)) (by omega) ⟨Aa,Aa,Aa,Aa,Aa,n+1,Aa,by omega,rfl⟩
 obtain⟨htx,hlaw⟩:=hctx n a hga hk;have kmay:=fun rd=>ZdX c n a rd hga (by omega) hcr (Qq hk) htx.well
 have kread:AC prog 13 [AG c,AP Ks,.it .i64 (n:Int)] [] (.bo ((a.scope==0)||AJ c a n bits 4)) []:=by
  rw[←hlaw];refine ZiU c Ks n _ hsecl.1 hsecl.2 ?_
  unfold LG;by_cases h0:a.scope=0
  ·rw[if_pos h0]
   exact ZcE c n a _ hga (by omega) (Qq hk) h0
  ·rw[if_neg h0]
   obtain⟨t1,t2,t3,t4⟩:=htx.sld h0;rcases htx.well with h|⟨h1,h2,_⟩
   ·exact absurd h h0
   ·exact ZcD c n a _ hga (by omega) (by omega) hcr (Qq hk) h1 h2 t1 t2 t3 t4
 have hanyc:=hany c a n;have hany0c:=hany0 c a n;generalize AJ c a n bits=W at *;obtain⟨b0,qb0⟩:∃b,(a.scope==0)=b:=⟨_,rfl⟩
 rw[qb0]at kread;generalize Jc c a n=M at *;clear hlaw htx;rcases hk with h|h|h|h
 all_goals
  refine Ab (an @s1 (an @s5 (an @s7 (an @s8 (an @s9 (An @s10 @hil' @hi0 @hgc @hLsz @hnl' @hn0 @hga @hasz @h @qb0)))))) ?_;refine AN (fun m e S=>e 1=.it .i64 bits∧e 5=.bo true∧e 7=.sl .ro (L.map AG)∧e 8=AP Ks∧e 9=.it .i64 (i:Int)∧e 10=.it .i64 (n:Int) ∧ ∃j:Nat,e 13=.it .i64 (j:Int)∧e 12=.bo (b0||W j)∧j≤4∧m=4-j) 4 ⟨Aa,Aa,Aa,Aa,Aa,Aa,0,Aa,by rw[hany0c,Bool.or_false];exact Aa,by omega,rfl⟩ ?_
  clear s1 s5 s7 s8 s9 s10;rintro m e T ⟨s1,s5,s7,s8,s9,s10,j,s13,s12,hj,rfl⟩
  have hT1:∀y:SObj,(T++[y])[T.length]? = some y:=fun y=>by simp
  have hT2:∀y z:SObj,(T++[y]).set T.length z=T++[z]:=fun y z=>by simp
  by_cases hjl:j<4
  rotate_left
  ·obtain rfl:j=4:=by omega
   have hj':¬((4:Nat):Int)<4:=by omega
   generalize (b0||W 4)=v at *;have qv:(v==v)=true:=beq_self_eq_true _;have qv':(v !=v)=false:=by rw[bne,qv];rfl
   refine Ab (an @s1 (an @s5 (An @s7 @s8 @s9 @s10 @s13 @s12 @hj' @hi0 @hil' @hgc @hLsz))) ?_;refine cp kread ?_;refine Ab (An @s1 @s5 @s7 @s8 @s9 @s10 @s13 @s12 @qv @qv' @wn1) ?_;exact Aj (c.acts.length-(n+1)) (by omega) ⟨Aa,Aa,Aa,Aa,Aa,n+1,Aa,by omega,rfl⟩
  have hj':(j:Int)<4:=by omega
  have hj0:(0:Int)≤(j:Int):=by omega
  have wj1:=AT (k:=j) (by omega)
  have ka:=Iv (j:Int) (by omega)
  have km:=kmay (AE (j:Int));have kf:=kF (AE (j:Int));have hst:=hanyc j;have hsh:=S9 bits j (by omega)
  unfold F5 at hst;generalize AE (j:Int)=A at *;obtain⟨c',kw,hfv,hkn⟩:∃c' kw,Oo (F A)=.tup [AG c',.bo kw]∧(F A).isSome=kw:=by
   cases F A with
   |none=>exact⟨_,_,rfl,rfl⟩
   |some c=>exact⟨_,_,rfl,rfl⟩
  rw[hfv]at kf;rw[hkn]at hst;generalize bits.fdiv (2^j)=y at *;obtain⟨bb,hbb⟩:∃b,(Go.bits .and .i64 y 1==1)=b:=⟨_,rfl⟩
  rw[hbb]at hst;generalize M A=mm at *;replace hst:(b0||W (j+1))=((b0||W j)||(bb&&mm&&kw)):=by rw[hst,Bool.or_assoc]
  generalize (b0||W j)=v at *;refine Ab (an @s1 (an @s5 (An @s7 @s8 @s9 @s10 @s13 @s12 @hj' @hi0 @hil' @hgc @hLsz))) ?_;refine cp ka ?_;refine Ab (an @s1 (an @s5 (An @s7 @s8 @s9 @s10 @s13 @s12 @hj' @hi0 @hil' @hgc @hLsz))) ?_;refine cp km ?_;refine Ab (A8 @s1 @s5 @s7 @s8 @s9 @s10 @s13 @s12) ?_;refine cp ka ?_;refine Ab (A8 @s1 @s5 @s7 @s8 @s9 @s10 @s13 @s12) ?_;refine cp kf ?_;cases v with
  |true=>
   rw[Bool.true_or]at hst;refine Ab (An @s1 @s5 @s7 @s8 @s9 @s10 @s13 @s12 @hT1 @hT2 @wj1) ?_;exact Aj (4-(j+1)) (by omega) ⟨Aa,Aa,Aa,Aa,Aa,Aa,j+1,Aa,by rw[hst];exact Aa,by omega,rfl⟩
  | false=>
   rw[Bool.false_or]at hst;cases bb with
   |false=>
    rw[Bool.false_and,Bool.false_and]at hst;refine Ab (an @s1 (an @s5 (An @s7 @s8 @s9 @s10 @s13 @s12 @hT1 @hT2 @hsh @hbb @wj1))) ?_;exact Aj (4-(j+1)) (by omega) ⟨Aa,Aa,Aa,Aa,Aa,Aa,j+1,Aa,by rw[hst];exact Aa,by omega,rfl⟩
   | true=>
    cases mm with
    |false=>
     rw[Bool.true_and,Bool.false_and]at hst;refine Ab (an @s1 (an @s5 (An @s7 @s8 @s9 @s10 @s13 @s12 @hT1 @hT2 @hsh @hbb @wj1))) ?_;exact Aj (4-(j+1)) (by omega) ⟨Aa,Aa,Aa,Aa,Aa,Aa,j+1,Aa,by rw[hst];exact Aa,by omega,rfl⟩
    |true=>
     rw[Bool.true_and,Bool.true_and]at hst;refine Ab (an @s1 (an @s5 (An @s7 @s8 @s9 @s10 @s13 @s12 @hT1 @hT2 @hsh @hbb @wj1))) ?_;exact Aj (4-(j+1)) (by omega) ⟨Aa,Aa,Aa,Aa,Aa,Aa,j+1,Aa,by rw[hst];exact Aa,by omega,rfl⟩
end Pe
end
section
namespace Pe
open _root_.Go.Proofs.Tryz
open Go Go.RowKit Co Sg Ac It Sl Tp
set_option maxRecDepth 100000
set_option maxHeartbeats 4000000
theorem Zbu{n us}(h:CF prog 140737488351232 (n+2) 67 us):∃w:Wish,us=(En w).cells∧Wi w:=by
 have h:=Zbv underlying67 h;obtain⟨a0,b0,rfl,h0,h⟩:=h;obtain⟨a1,b1,rfl,h1,h⟩:=h;obtain⟨a2,b2,rfl,h2,h⟩:=h;obtain⟨a3,b3,rfl,h3,h⟩:=h;obtain⟨a4,b4,rfl,h4,h⟩:=h;obtain⟨a5,b5,rfl,h5,rfl⟩:=h;obtain⟨i0,rfl,w0⟩:=Lv underlying3 h0;obtain⟨i1,rfl,w1⟩:=Lv underlying3 h1;obtain⟨i2,rfl,w2⟩:=Lv underlying3 h2;obtain⟨i3,rfl,w3⟩:=Lv underlying3 h3;obtain⟨t,rfl,_⟩:=Zbw underlying9 h4;obtain⟨i5,rfl,w5⟩:=Lv underlying3 h5;exact⟨⟨i0,i1,i2,i3,t,i5⟩,rfl,w0,w1,w2,w3,w5⟩
theorem shp_wishes{n us}(h:CF prog 140737488351232 (n+3) 22 us):∃l:List Wish,us=[.sl .ro (l.map En)]∧l.length≤140737488351232 ∧ ∀w∈l,Wi w:=
 Zbx En Wi underlying22 h fun x hx=>by
  obtain⟨a,rfl,ha⟩:=Zbu hx;exact⟨a,by rw[show HE prog 67=true from by kernel_rfl];rfl,ha⟩
theorem topPrivacyY_c(ws:List Wish)(bits:Int)(hlw:ws.length≤140737488351232 ∧ ∀w∈ws,Wi w)(hb:Em bits):
  AC prog 3 [.sl .ro (ws.map En),.it .i64 bits] [] (.bo true) []:=
 ZcV ws bits (by omega) hlw.2 hb
end Pe
end
section
section
open Go Go.RowKit Go.WideShapes Go.ChangeShapes
section
variable {H:Type} {enc:TypeId×Value→H} {P:Program}
theorem Zc2{f:Func}{s:ChangeSpec}{apart fresh handsOn again:Bool}{W W':World}{args:Array Value}{v:Value}{ds gs:List (DataW H)}{before pa pv:List MemPlace}
  (hW:DataW.Whole enc P f.params.toList s.vars apart W args.toList ds gs before)
  (hres:∀(b:Nat) (sp:Nat→Bool) (hd:Bool),DataW.TrodAll enc P W' b sp hd f.resultTypes.toList (v.resultList f.resultTypes.size) (s.fn H (ds++gs)).results [])
  (hargs:∀sp:Nat→Bool,(∀p∈before,sp p.block=true)→DataW.TrodAll enc P W' 0 sp true f.params.toList args.toList (s.fn H (ds++gs)).args pa)
  (hvars:∀sp:Nat→Bool,(∀p∈before,sp p.block=true)→DataW.TrodVars enc P W' sp s.vars (s.fn H (ds++gs)).vars pv)
  (hps:before=pa++pv)(hb:Below W.heap.size W W')
  (hok:∀(j:Nat) (t:TypeId) (r:Value),f.resultTypes[j]? = some t→(v.resultList f.resultTypes.size)[j]? = some r→Value.okWide P W' .any 0 t r):
  s.post enc P f apart fresh handsOn again W args v W':=by
 have hlt:∀p∈before,p.block<W.heap.size:=fun p hp=>hW.lt p hp
 have hold:∀p∈before,(fun b=>decide (b<W.heap.size)) p.block=true:=fun p hp=>by simpa using hlt p hp
 refine⟨ds,gs,before,[],pa,pv,hW,hres _ _ _,hargs _ hold,hvars _ hold,World.keptBut_mono (fun p hp=>⟨hp,?_⟩) (hb.frame (· ∈ before)),fun _=>?_⟩
 ·rw[hps,List.mem_append]at hp
  exact Or.inr hp
 ·obtain⟨_,_,_,_,_,hz,hn⟩:=hW
  refine⟨hok,_,_,([]++pa)++pv,⟨[]++pa,pv,trodAll_append (hargs _ (fun _ _=>rfl)) (hres _ _ _),hvars _ (fun _ _=>rfl),rfl,?_,?_⟩,?_⟩
  ·intro b off hp
   have hin:MemPlace.cell b off∈before:=by rw[hps];simpa using hp
   rw[hb.frozen (hlt _ hin)];exact hz b off hin
  ·intro ha
   have :=hn ha;rw[hps]at this;simpa using this
  ·intro p hp _
   rw[hps];simpa using hp
end
end
end
section
section
open Go Go.RowKit Sm
theorem own:ownKnob Tryz.prog.godebug=none:=by kernel_rfl
theorem gK:Tryz.prog.globalNamed "agora/sum.constants" = some 1:=by kernel_rfl
theorem gI:Tryz.prog.globalNamed "agora/sum.initial" = some 0:=by kernel_rfl
theorem Zfv:(Tryz.prog.globals[1]?).map (·.type)=some 206:=by kernel_rfl
theorem Zfw:(Tryz.prog.globals[0]?).map (·.type)=some 143:=by kernel_rfl
theorem Zhz:Tryz.prog.cellsOf 206=64:=by kernel_rfl
theorem ZhA:Tryz.prog.cellsOf 143=8:=by kernel_rfl
theorem XN:Tryz.prog.cellsOf 142=1:=by kernel_rfl
def OY:List Int:=[1116352408,1899447441,3049323471,3921009573,961987163,1508970993,2453635748,2870763221,3624381080,310598401,607225278,1426881987,1925078388,2162078206,2614888103,3248222580,3835390401,4022224774,264347078,604807628,770255983,1249150122,1555081692,1996064986,2554220882,2821834349,2952996808,3210313671,3336571891,3584528711,113926993,338241895,666307205,773529912,1294757372,1396182291,1695183700,1986661051,2177026350,2456956037,2730485921,2820302411,3259730800,3345764771,3516065817,3600352804,4094571909,275423344,430227734,506948616,659060556,883997877,958139571,1322822218,1537002063,1747873779,1955562222,2024104815,2227730452,2361852424,2428436474,2756734187,3204031479,3329325298]
def OZ:List Int:=[1779033703,3144134277,1013904242,2773480762,1359893119,2600822924,528734635,1541459225]
theorem Z0:OY=EZ.map (fun x=>(x.toNat:Int)):=by decide +kernel
theorem Z1:OZ=BS.list.map (fun x=>(x.toNat:Int)):=by decide +kernel
theorem Ss(l:List (BitVec 32))(i:Nat)(hi:i<l.length):Value.int .u32 ((l.map (fun x=>(x.toNat:Int))).getD i 0)=Ag (l.getD i 0):=by
 simp only[List.getD_eq_getElem?_getD,List.getElem?_map,List.getElem?_eq_getElem hi]
 rfl
def Zem:List (String×DataW Unit):=[("agora/sum.constants",Rows.laid_agora_sum_constants),("agora/sum.initial",Rows.laid_agora_sum_initial)]
theorem ZaT{W:World}(h:laidMetH Tryz.prog Zem W):Ds W:=by
 have h1:laidMet Tryz.prog (("agora/sum.constants",Lib.tabData .u32 OY)::[("agora/sum.initial",Lib.tabData .u32 OZ)]) W:=h;have k1:=Lib.tabIs_of_head gK Zfv Tryz.underlying206 Tryz.underlying142 XN Zhz h1;have k2:=Lib.tabIs_of_head gI Zfw Tryz.underlying143 Tryz.underlying142 XN ZhA (laidMet.tail h1);refine⟨fun i hi=>?_,fun i hi=>?_⟩
 ·rw[k1.cell gK i hi,Z0,Ss EZ i hi]
 ·rw[k2.cell gI i hi,Z1,Ss BS.list i hi]
def Su(cs:Array Value):Obj→Obj
 |.cells _ t frozen=>.cells cs t frozen
 |o=>o
noncomputable def Qn(os:Os):World:=
 { World.holding Tryz.prog os ⟨#[],#[],[]⟩with heap:=((World.holding Tryz.prog os ⟨#[],#[],[]⟩).heap.modify 1 (Su (OY.map (Value.int .u32)).toArray)).modify 0 (Su (OZ.map (Value.int .u32)).toArray) }
theorem ZaU{W:World}(h:Ds W):∀b i v,(Pe.tabs).T b i=some v→W.cell? ⟨b,i,none⟩=some v:=by
 intro b i v hv;have hv':(if b=1∧i<64 then some (Ag (EZ.getD i 0))else if b=0∧i<8 then some (Ag (BS.list.getD i 0))else none)=some v:=hv
 split at hv'
 ·rename_i hc
  obtain⟨rfl,hi⟩:=hc;rw[h.1 i hi];exact hv'
 ·split at hv'
  ·rename_i hc
   obtain⟨rfl,hi⟩:=hc;rw[h.2 i hi];exact hv'
  ·cases hv'
theorem Zel:laidOutB Tryz.prog=true:=by kernel_rfl
end
end
end Go.Proofs.YtipfggegddlgdaaGreatDoor
