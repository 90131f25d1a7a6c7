import Derived.Test.YtchpmmjmimaigaaGreatDoorKh31
import Derived.Below
import Derived.ChangeSame
import Derived.Test.YtchpmmjmimaigaaGreatDoorCards
import Derived.Test.YtchpmmjmimaigaaGreatDoorTie
import Derived.WalkKit
import Derived.ProofKit
import Derived.OpenShut
import Derived.Deep.DeepHandedRow
import Derived.Lib.LaidTab
import Derived.Stop.LaidErr
import Derived.ShutString
set_option linter.unusedSectionVars false
set_option linter.unusedVariables false
set_option linter.unusedSimpArgs false
namespace Go.Proofs.YtchpmmjmimaigaaGreatDoor
section
namespace Pe
open _root_.Go.Proofs.Tryz
open Go Go.RowKit Co Sg Ac It Sl Tp Sr Ho
set_option maxRecDepth 100000
set_option maxHeartbeats 4000000
theorem Zg2{i:Nat}(h:i<3):0≤kC i∧kC i≤2305843009213693950:=by
 match i,h with
 |0,_=>exact⟨by decide,by decide⟩
 |1,_=>exact⟨by decide,by decide⟩
 |2,_=>exact⟨by decide,by decide⟩
theorem Zu{c:It.Claim}(h:It.right (Ax c)=true):0≤c.sig.e∧c.sig.e≤2305843009213693949:=by
 have h1:(Fh c&&decide (rest (Ax c)=B2))=true:=h;rw[Bool.and_eq_true]at h1;have h2:=h1.1;unfold Fh at h2;rw[Bool.and_eq_true]at h2;have h3:=h2.2;unfold Bu wi at h3;simp only[Bool.and_eq_true,decide_eq_true_eq]at h3;exact h3.1
section
variable {Q:List It.Ballot} {l:List It.Item} {m:Nat} {C:List It.Claim} {B:List It.Ballot}
theorem HSet.len(h:HSet Q l m C B):l.length≤21:=by
 have h1:=h.perm.length_eq;have h2:=h.nc;have h3:=h.nb;rw[List.length_append,List.length_append,List.length_map,List.length_map,List.length_map]at h1;have h4:(AY m).length≤6:=by
  unfold AY;rw[List.length_append,List.length_take];show 4+min m 2≤6
  omega
 omega
theorem HSet.nfa(h:HSet Q l m C B):(Eg l Aj).length<20:=by
 have h1:(Eg l Aj).length=(Pe.actsP l Aj).length:=by unfold Pe.actsP;rw[List.length_map,IV]
 have h2:=h.actsP.length_eq;have h3:(LH.take (2+m)).length≤4:=by rw[List.length_take];show min (2+m) 4≤4;omega
 omega
theorem HSet.nfc(h:HSet Q l m C B):(EC l Aj).length<20:=by
 have h1:(EC l Aj).length=(Pe.claimsP l Aj).length:=by unfold Pe.claimsP;rw[List.length_map,IV]
 have h2:=h.claimsP.length_eq;have h3:=h.nc;omega
theorem HSet.nfb(h:HSet Q l m C B)(g:Int):(Du l Aj g).length<20:=by
 have h1:(Du l Aj g).length=(l.filter (Gl Aj g)).length:=by unfold Du;rw[List.length_map]
 have h2:=(h.perm.filter (Gl Aj g)).length_eq;rw[List.filter_append,List.filter_append]at h2;have e1:((AY m).map An).filter (Gl Aj g)=[]:=List.filter_eq_nil_iff.2 fun x hx=>by
  obtain⟨c,_,rfl⟩:=List.mem_map.1 hx;simp[Gl,An,B2]
 have e2:(C.map Ax).filter (Gl Aj g)=[]:=List.filter_eq_nil_iff.2 fun x hx=>by
  obtain⟨c,_,rfl⟩:=List.mem_map.1 hx;simp[Gl,Ax]
 rw[e1,e2,List.nil_append,List.nil_append]at h2;have h3:=List.length_filter_le (Gl Aj g) (B.map Cj);rw[List.length_map]at h3;have h4:=h.nb;omega
theorem HSet.wonT(h:HSet Q l m C B){g:Int}(hg:(D9 l Aj g).2=true):(D9 l Aj g).1∈C:=by
 by_cases h0:g=0
 ·subst h0
  rw[h.won0]at hg ⊢;cases hw:GF l C with
  |none=>rw[hw]at hg;cases hg
  |some c=>exact List.mem_of_find?_eq_some hw
 ·rw[h.wong h0]at hg
  cases hg
theorem HSet.voters(h:HSet Q l m C B)(ps:List Int)(claim:By):AC prog 18 [BC ps l,.st claim,.st Aj,.it .i64 0] [] (.sl .ro ((C1 l claim Aj 0).map (AV.it .i64))) []:=
 Uw ps l claim Aj 0 (by have :=h.len;omega) h.iz (h.nfb 0) h.nd
theorem HSet.won(h:HSet Q l m C B)(ps:List Int)(hps:ps.length=4)(g:Int):AC prog 20 [BC ps l,.st Aj,.it .i64 g] [] (.tup [Br (D9 l Aj g).1,.bo (D9 l Aj g).2]) []:=
 Zcc ps l Aj g hps (by have :=h.len;omega) h.iz h.nfc (h.nfb g) h.nd fun c hc=>h.iz _ (h.claim (h.claimsP.mem_iff.1 hc))
theorem HSet.chn(h:HSet Q l m C B)(ps:List Int)(hps:ps.length=4):AC prog 8 [BC ps l,.st Aj] [] (AN (JP l m C)) []:=by
 have hok:CF Aj (LH.take (2+m)):=RL RO _;have hp:=h.actsP;have hlen:(Pe.actsP l Aj).length≤4:=by
  rw[hp.length_eq,List.length_take];show min (2+m) 4≤4
  omega
 have hm0:BN∈Pe.actsP l Aj:=hp.mem_iff.2 (by
  have h0:(LH.take (2+m))[0]? = some BN:=by rw[List.getElem?_take_of_lt (by omega)];rfl
  exact List.mem_of_getElem? h0)
 refine Zy ps (l.map Ao) Aj (Pe.actsP l Aj) BN _ (fun g=>D9 l Aj g) 30 (ZaH ps l Aj (by have :=h.len;omega) h.iz h.nfa h.nd) (h.won ps hps) (fun g hg=>?_) (fun g n hg hn=>?_) (fun a ha=>?_) (V6 hok hp) ?_ (by omega) (by omega) hm0 Sp h.runs
 ·have hc:=h.wonT hg
  obtain⟨i,b,hh,hi,_,_,e⟩:=h.cl _ hc;refine⟨h.iz _ (h.claim hc),?_⟩
  rw[e];exact Zg2 hi
 ·have hc:=h.wonT hg
  have hr:=h.right _ (h.claim hc);have hs:=Zu hr;exact Zs n _ (H2 hr) hn ⟨by omega,by omega⟩
 ·obtain⟨j,hj⟩:=List.mem_iff_getElem?.1 (hp.mem_iff.1 ha)
  exact(EY hok hj).2.2.1
 ·refine((hp.map dg).nodup_iff).2 ?_
  have:((l.filter (Fs Aj)).map It.digest).Nodup:=h.nd.sublist (List.filter_sublist.map _);have hnd4:(LH.map dg).Nodup:=by
   show[dg BN,dg B5,dg ET,dg Fz].Nodup
   rw[Mg,Nz,NB,PI];decide
  exact hnd4.sublist ((List.take_sublist _ _).map dg)
end
end Pe
end
section
namespace Pe
open _root_.Go.Proofs.Tryz
open Go Go.RowKit Co Sg Ac It Sl Tp Sr Ho
set_option maxRecDepth 100000
set_option maxHeartbeats 4000000
theorem Zkq(ps:List Int)(l:List It.Item)(it:It.Item):(Ce ps l it).1=l∨(It.right it=true∧It.digest it∉l.map It.digest∧(Ce ps l it).1.Perm (it::l)):=by
 by_cases h1:(It.right it&&It.signed ps it)=true
 ·by_cases h2:It.digest it∈l.map It.digest
  ·refine .inl ?_
   unfold Ce;rw[if_pos h1,if_pos];unfold FQ;rw[List.any_eq_true];obtain⟨x,hx,e⟩:=List.mem_map.1 h2;exact⟨x,hx,by simp[e]⟩
  ·exact .inr ⟨((Bool.and_eq_true _ _).mp h1).1,h2,ZaB h1 h2⟩
 ·refine .inl ?_
  unfold Ce;rw[if_neg h1]
section
variable {Q:List It.Ballot} {l:List It.Item} {m:Nat} {C:List It.Claim} {B:List It.Ballot}
theorem HSet.add(h:HSet Q l m C B)(hI:∀x,It.right x=true→Iz x)(ps:List Int){b:It.Ballot}(hq:b∈Q)(hs:0≤b.server∧b.server≤3)(hv:∀y∈B,y.server=b.server→b.server<3→y.claim=b.claim):
  ∃B',HSet Q (Ce ps l (Cj b)).1 m C B' ∧ ∀x∈B',x∈B∨x=b:=by
 rcases Zkq ps l (Cj b)with e|⟨h1,h2,hp⟩
 ·rw[e]
  exact⟨B,h,fun x hx=>.inl hx⟩
 ·refine⟨b::B,⟨?_,?_,fun x hx=>?_,fun x hx=>?_,h.hm,h.nc,fun x hx=>?_,h.nq,h.cl,fun x hx=>?_,fun x hx y hy e hl=>?_⟩,fun x hx=>?_⟩
  ·refine hp.trans ((h.perm.cons _).trans ?_)
   rw[List.map_cons,←List.append_assoc,←List.append_assoc];exact List.perm_middle.symm
  ·refine(hp.map It.digest).nodup_iff.2 ?_
   rw[List.map_cons];exact List.nodup_cons.2 ⟨h2,h.nd⟩
  ·rcases List.mem_cons.1 (hp.mem_iff.1 hx)with rfl|hx
   ·exact h1
   ·exact h.right x hx
  ·rcases List.mem_cons.1 (hp.mem_iff.1 hx)with rfl|hx
   ·exact hI _ h1
   ·exact h.iz x hx
  ·rcases List.mem_cons.1 hx with rfl|hx
   ·exact hq
   ·exact h.pool x hx
  ·rcases List.mem_cons.1 hx with rfl|hx
   ·exact hs
   ·exact h.srv x hx
  ·rcases List.mem_cons.1 hx with hx1|hx1
   ·rcases List.mem_cons.1 hy with hy1|hy1
    ·rw[hx1,hy1]
    ·rw[hx1]at e hl ⊢
     exact(hv y hy1 e.symm hl).symm
   ·rcases List.mem_cons.1 hy with hy1|hy1
    ·rw[hy1]at e ⊢
     exact hv x hx1 e (by omega)
    ·exact h.vote x hx1 y hy1 e hl
  ·rcases List.mem_cons.1 hx with rfl|hx
   ·exact .inr rfl
   ·exact .inl hx
theorem HSet.adds(hI:∀x,It.right x=true→Iz x)(ps:List Int):∀(L:List It.Ballot) {l:List It.Item} {B:List It.Ballot},HSet Q l m C B→(∀b∈L,b∈Q)→(∀b∈L,0≤b.server∧b.server≤3) →
  (∀x∈B++L,∀y∈B++L,x.server=y.server→x.server<3→x.claim=y.claim) → ∃B',HSet Q ((L.map Cj).foldl (fun k it=>(Ce ps k it).1) l) m C B'
 |[],l,B,h,_,_,_=>⟨B,h⟩
 | b::L,l,B,h,hq,hs,hv=>by
  obtain⟨B1,h1,h2⟩:=h.add hI ps (hq b (by simp)) (hs b (by simp)) fun y hy e hl=>hv y (by simp[hy]) b (by simp) e (by omega)
  rw[List.map_cons,List.foldl_cons];have hsub:∀x∈B1++L,x∈B++b::L:=fun x hx=>by
   rcases List.mem_append.1 hx with hx|hx
   ·rcases h2 x hx with hx|rfl
    ·exact List.mem_append_left _ hx
    ·simp
   ·exact List.mem_append_right _ (List.mem_cons_of_mem _ hx)
  exact HSet.adds hI ps L h1 (fun x hx=>hq x (List.mem_cons_of_mem _ hx)) (fun x hx=>hs x (List.mem_cons_of_mem _ hx)) fun x hx y hy=>hv x (hsub x hx) y (hsub y hy)
end
theorem ZiP(m:Nat):∀d∈((AY m).map An).map It.digest,d∈[ND,Ti,Tf,NA,NC,PK]:=fun d hd=>by
 rw[List.map_map]at hd;obtain⟨a,ha,rfl⟩:=List.mem_map.1 hd;show dg a∈_
 rcases List.mem_append.1 ha with h|h
 ·simp only[List.mem_cons,List.not_mem_nil,or_false]at h
  rcases h with rfl|rfl|rfl|rfl
  ·rw[Mg];simp
  ·rw[Tg];simp
  ·rw[Te];simp
  ·rw[Nz];simp
 ·have :=List.mem_of_mem_take h
  simp only[List.mem_cons,List.not_mem_nil,or_false]at this;rcases this with rfl|rfl
  ·rw[NB];simp
  ·rw[PI];simp
theorem RR(m:Nat)(hm:m≤2):(((AY m).map An).map It.digest).Nodup:=by
 have h:(((AY 2).map An).map It.digest).Nodup:=by
  show[dg BN,dg Bl,dg EG,dg B5,dg ET,dg Fz].Nodup
  rw[Mg,Tg,Te,Nz,NB,PI];decide
 refine h.sublist ((List.Sublist.map _ (List.Sublist.map _ ?_)))
 unfold AY;exact List.Sublist.append (List.Sublist.refl _) ((List.take_sublist_take_left hm))
def Cn(i:Nat):List (Nat×Nat)→List It.Claim
 |[]=>[]
 |(b,h)::l=>Ca i b h::Cn (i+1) l
theorem Ts:∀(i:Nat) (l:List (Nat×Nat)),(Cn i l).length=l.length
 |_,[]=>rfl
 |i,_::l=>by unfold Cn;rw[List.length_cons,List.length_cons,Ts (i+1) l]
theorem Mh:∀(l:List (Nat×Nat)) (i:Nat) (c:It.Claim),c∈Cn i l → ∃j b h,i≤j∧j<i+l.length∧(b,h)∈l∧c=Ca j b h
 |[],_,_,h=>nomatch h
 | (b,hh)::l,i,c,h=>by
  unfold Cn at h;rcases List.mem_cons.1 h with rfl|h
  ·exact⟨i,b,hh,Nat.le_refl _,by rw[List.length_cons];omega,by simp,rfl⟩
  ·obtain⟨j,b2,h2,h3,h4,h5,h6⟩:=Mh l (i+1) c h
   exact⟨j,b2,h2,by omega,by rw[List.length_cons];omega,List.mem_cons_of_mem _ h5,h6⟩
theorem Y4{i b h:Nat}(hi:i<3)(hb:b<3)(hh:h<4):It.digest (Ax (Ca i b h))∈dC:=by
 rw[PO hi hb hh,List.getD_eq_getElem?_getD,List.getElem?_eq_getElem (by rw[PL];omega)]
 exact List.getElem_mem _
theorem Zgd{α:Type _}{l:List α}(h:l.Nodup){i j:Nat}{hi:i<l.length}{hj:j<l.length}(e:l[i]=l[j]):i=j:=by
 rcases Nat.lt_trichotomy i j with h1|h1|h1
 ·exact absurd e (List.pairwise_iff_getElem.1 h i j hi hj h1)
 ·exact h1
 ·exact absurd e.symm (List.pairwise_iff_getElem.1 h j i hj hi h1)
theorem ZiS{i b h i' b' h':Nat}(hi:i<3)(hb:b<3)(hh:h<4)(hi':i'<3)(hb':b'<3)(hh':h'<4)(e:It.digest (Ax (Ca i b h))=It.digest (Ax (Ca i' b' h'))):i=i':=by
 rw[PO hi hb hh,PO hi' hb' hh',List.getD_eq_getElem?_getD,List.getD_eq_getElem?_getD,List.getElem?_eq_getElem (by rw[PL];omega),List.getElem?_eq_getElem (by rw[PL];omega)]at e
 have :=(List.nodup_append.1 Td).1;have :=Zgd this e;omega
theorem WL:∀(l:List (Nat×Nat)) (i:Nat),i+l.length≤3→(∀p∈l,p.1<3∧p.2<4)→(((Cn i l).map Ax).map It.digest).Nodup
 |[],_,_,_=>List.nodup_nil
 |(b,h)::l,i,hi,hl=>by
  rw[List.length_cons]at hi;unfold Cn;rw[List.map_cons,List.map_cons];refine List.nodup_cons.2 ⟨fun hm=>?_,WL l (i+1) (by omega) fun p hp=>hl p (List.mem_cons_of_mem _ hp)⟩
  rw[List.map_map]at hm;obtain⟨c,hc,e⟩:=List.mem_map.1 hm;obtain⟨j,b2,h2,h3,h4,h5,rfl⟩:=Mh l (i+1) c hc;have h0:=hl (b,h) (by simp)
  have h6:=hl (b2,h2) (List.mem_cons_of_mem _ h5);have :=ZiS (by omega) h6.1 h6.2 (by omega) h0.1 h0.2 e
  omega
theorem E3(hI:∀x,It.right x=true→Iz x)(hC:∀i b h,i<3→b<3→h<4→It.right (Ax (Ca i b h))=true)(ps:List Int){m:Nat}(hm:m≤2){P:List (Nat×Nat)}(hP:P.length≤3)(hPb:∀p∈P,p.1≤m∧p.2<4)
  (Q:List It.Ballot)(hQ:Q.length≤12)(L:List It.Ballot)(hq:∀b∈L,b∈Q)(hs:∀b∈L,0≤b.server∧b.server≤3)(hv:∀x∈L,∀y∈L,x.server=y.server→x.server<3→x.claim=y.claim):
  ∃B,HSet Q (Cb ps ((AY m).map An++((Cn 0 P).map Ax++L.map Cj))) m (Cn 0 P) B:=by
 have hPb':∀p∈P,p.1<3∧p.2<4:=fun p hp=>⟨by have :=(hPb p hp).1;omega,(hPb p hp).2⟩
 have hcr:∀c∈Cn 0 P,It.right (Ax c)=true:=fun c hc=>by
  obtain⟨j,b,h,h1,h2,h3,rfl⟩:=Mh P 0 c hc;exact hC j b h (by omega) (hPb' _ h3).1 (hPb' _ h3).2
 have hnd:((((AY m).map An)++(Cn 0 P).map Ax).map It.digest).Nodup:=by
  rw[List.map_append];refine List.nodup_append.2 ⟨RR m hm,WL P 0 (by omega) hPb',fun x hx y hy e=>?_⟩
  subst e;have h1:=ZiP m x hx;rw[List.map_map]at hy;obtain⟨c,hc,rfl⟩:=List.mem_map.1 hy;obtain⟨j,b,h,h2,h3,h4,rfl⟩:=Mh P 0 c hc;exact(List.nodup_append.1 Td).2.2 _ (Y4 (by omega) (hPb' _ h4).1 (hPb' _ h4).2) _ h1 rfl
 have hr:∀x∈((AY m).map An)++(Cn 0 P).map Ax,(It.right x&&It.signed ps x)=true:=fun x hx=>by
  rcases List.mem_append.1 hx with hx|hx
  ·obtain⟨a,ha,rfl⟩:=List.mem_map.1 hx
   have :=act_signed ps (NO m a ha);rw[this.1,this.2];rfl
  ·obtain⟨c,hc,rfl⟩:=List.mem_map.1 hx
   rw[hcr c hc];unfold It.signed;rw[hcr c hc];rfl
 have h0:=OD ps _ [] hr (by rw[List.nil_append];exact hnd)
 rw[List.nil_append]at h0;have hmem:∀x∈Cb ps (((AY m).map An)++(Cn 0 P).map Ax),It.right x=true:=fun x hx=>((Bool.and_eq_true _ _).mp (hr x (h0.mem_iff.1 hx))).1
 have hS:HSet Q (Cb ps (((AY m).map An)++(Cn 0 P).map Ax)) m (Cn 0 P) []:=
  ⟨by rw[List.map_nil,List.append_nil];exact h0,(h0.map It.digest).nodup_iff.2 hnd,hmem,fun x hx=>hI x (hmem x hx),hm,by rw[Ts];exact hP,(fun _ h=>nomatch h),hQ,fun c hc=>by
   obtain⟨j,b,h,h1,h2,h3,rfl⟩:=Mh P 0 c hc;exact⟨j,b,h,by omega,(hPb _ h3).1,(hPb _ h3).2,rfl⟩,(fun _ h=>nomatch h),(fun _ h=>nomatch h)⟩
 have e:Cb ps ((AY m).map An++((Cn 0 P).map Ax++L.map Cj))=(L.map Cj).foldl (fun k it=>(Ce ps k it).1) (Cb ps (((AY m).map An)++(Cn 0 P).map Ax)):=by
  unfold Cb;rw[←List.append_assoc,List.foldl_append]
 rw[e];exact HSet.adds hI ps L hS hq hs (by rw[List.nil_append];exact hv)
end Pe
end
section
namespace Pe
open _root_.Go.Proofs.Tryz
open Go Go.RowKit Co Sg Ac It Sl Tp Sr Ho
set_option maxRecDepth 100000
set_option maxHeartbeats 4000000
theorem TB{m:Nat}(hm:m≤2)(id:By):Bz (AY m) id=if id=Aj then LH.take (2+m)else if id=Dt then [Bl]else if id=DU then [EG]else []:=by
 have h0:∀a∈[BN,B5,ET,Fz],a.author=Aj:=by
  intro a ha;simp only[List.mem_cons,List.not_mem_nil,or_false]at ha;rcases ha with rfl|rfl|rfl|rfl<;>rfl
 by_cases e0:id=Aj
 ·subst e0
  rw[if_pos rfl];match m,hm with
  |0,_=>rfl
  |1,_=>rfl
  |2,_=>rfl
 rw[if_neg e0];by_cases e1:id=Dt
 ·subst e1
  rw[if_pos rfl];match m,hm with
  |0,_=>rfl
  |1,_=>rfl
  |2,_=>rfl
 rw[if_neg e1];by_cases e2:id=DU
 ·subst e2
  rw[if_pos rfl];match m,hm with
  |0,_=>rfl
  |1,_=>rfl
  |2,_=>rfl
 rw[if_neg e2];refine List.filter_eq_nil_iff.2 fun a ha=>?_
 have:a.author=Aj∨a.author=Dt∨a.author=DU:=by
  rcases List.mem_append.1 ha with h|h
  ·simp only[List.mem_cons,List.not_mem_nil,or_false]at h
   rcases h with rfl|rfl|rfl|rfl
   ·exact .inl rfl
   ·exact .inr (.inl rfl)
   ·exact .inr (.inr rfl)
   ·exact .inl rfl
  ·have :=List.mem_of_mem_take h
   simp only[List.mem_cons,List.not_mem_nil,or_false]at this;rcases this with rfl|rfl<;>exact .inl rfl
 intro e;have e:=beq_iff_eq.1 e;rcases this with h|h|h
 ·exact e0 (e.symm.trans h)
 ·exact e1 (e.symm.trans h)
 ·exact e2 (e.symm.trans h)
theorem Xy{k:List Ac.Act}{m:Nat}(hm:m≤2)(hp:k.Perm (AY m)):Inv k (AY m):=by
 refine⟨hp,?_,fun id=>?_⟩
 ·have :=RR m hm
  rwa[List.map_map]at this
 ·show CF id (Bz (AY m) id)
  rw[TB hm];split
  ·rename_i e;subst e;exact RL RO _
  ·split
   ·rename_i e;subst e;exact JW Sn
   ·split
    ·rename_i e;subst e;exact JW Xx
    ·exact OY id
abbrev wP:Wish:=⟨0,0,0,0,[112],9⟩
end Pe
end
section
namespace Pe
open _root_.Go.Proofs.Tryz
open Go Go.RowKit Co Sg Ac It Sl Tp
set_option maxRecDepth 100000
set_option maxHeartbeats 4000000
theorem Zko{ps:List Int}{l:List It.Item}{it x:It.Item}(h:x∈(Ce ps l it).1):x=it∨x∈l:=by
 unfold Ce at h;split at h
 ·split at h
  ·exact .inr h
  ·rcases List.mem_append.1 h with h|h
   ·exact .inr (List.mem_of_mem_take h)
   ·rcases List.mem_cons.1 h with h|h
    ·exact .inl h
    ·exact .inr (List.mem_of_mem_drop h)
 ·exact .inr h
theorem Zkp(ps:List Int)(l:List It.Item)(it:It.Item):(Ce ps l it).1.length≤l.length+1:=by
 unfold Ce;have :=Ry l (It.digest it);split
 ·split
  ·exact Nat.le_succ _
  ·simp only[List.length_append,List.length_cons,List.length_take,List.length_drop]
   omega
 ·exact Nat.le_succ _
theorem UI:∀p∈AG,-9223372036854775808≤p∧p≤9223372036854775807:=by
 have hk:∀n,-9223372036854775808≤(BO n).pub∧(BO n).pub≤9223372036854775807:=fun n=>by
  obtain⟨h1,h2,h3⟩:=Key.right_iff.1 (UJ n);have :=Fi 37 (BO n).secret.toNat;omega
 intro p hp;unfold AG at hp;simp only[List.mem_cons,List.not_mem_nil,or_false]at hp;rcases hp with rfl|rfl|rfl|rfl<;>exact hk _
theorem QT(l:List It.Item)(hl:l.length≤900)(hz:∀x∈l,Iz x):AC prog 6 [.sl .ro (l.map Ao)] [] (BC AG (Cb AG l)) []:=by
 have kp:=Uz;have kn:=WH AG (by decide)
 have hsz:=GV l;have hpr:=UI;have hst:∀k (h:k<l.length),(l.take (k+1)).foldl (fun k it=>(Ce AG k it).1) []=(Ce AG ((l.take k).foldl (fun k it=>(Ce AG k it).1) []) l[k]).1:=fun k h=>by
  rw[List.take_succ_eq_append_getElem h,List.foldl_append];rfl
 have hin:∀k,k≤l.length→((l.take k).foldl (fun k it=>(Ce AG k it).1) []).length≤k ∧ ∀x∈(l.take k).foldl (fun k it=>(Ce AG k it).1) [],Iz x:=by
  intro k;induction k with
  |zero=>exact fun _=>⟨Nat.le_refl _,fun x hx=>by simp at hx⟩
  |succ k ih=>
   intro hk;obtain⟨h1,h2⟩:=ih (by omega)
   rw[hst k (by omega)]
   refine⟨Nat.le_trans (Zkp _ _ _) (by omega),fun x hx=>?_⟩
   rcases Zko hx with rfl|hx
   ·exact hz _ (List.getElem_mem (by omega))
   ·exact h2 x hx
 have hend:(l.take l.length).foldl (fun k it=>(Ce AG k it).1) []=Cb AG l:=by rw[List.take_length];rfl
 generalize hH:(fun k:Nat=>(l.take k).foldl (fun k it=>(Ce AG k it).1) [])=H at *
 have hH':∀k,(l.take k).foldl (fun k it=>(Ce AG k it).1) []=H k:=fun k=>by rw[←hH]
 have hH0:H 0=[]:=by rw[←hH' 0];rfl
 simp only[hH']at hst hend hin;clear hH hH';rw[←hend];have ka:=fun k it (h1:k<l.length) (h2:Iz it)=>ZaC AG (H k) it hpr (by have :=(hin k (by omega)).1;omega) (hin k (by omega)).2 h2
 clear hpr;generalize AG=ps at *;refine Ai [24,23,22] [] func6 ?_;refine run ?_;refine cp kp ?_;refine run ?_;refine cp kn ?_;refine run ?_;refine Bn (fun m e S=>e 0=.sl .ro (l.map Ao)∧e 2=.ptr 0 0∧e 3=.ptr 1 0 ∧ ∃k:Nat,e 4=.it .i64 (k:Int)∧S=[.cells [.sl .full [],.sl .full []],.cells [AB ps,.sl .ro ((H k).map Ao)]]∧k≤l.length∧m=l.length-k) l.length ⟨Ab,Ab,Ab,0,Ab,by rw[hH0];rfl,by omega,rfl⟩ ?_
 rintro m e S ⟨s0,s2,s3,k,s4,rfl,hk,rfl⟩
 rw[GJ s2];by_cases hlt:k<l.length
 ·have hg:l[k]? = some l[k]:=List.getElem?_eq_getElem hlt
  have hlt':(k:Int)<(l.length:Int):=by omega
  have h0:(0:Int)≤(k:Int):=by omega
  have w1:=Cg (k:=k) (by omega)
  have kx:=ka k l[k] hlt (hz _ (List.getElem_mem hlt));rw[←hst k hlt]at kx;generalize l[k]=it at *;refine Aa (A8 @s0 @s2 @s3 @s4 @hlt' @h0 @hg @hsz) ?_;refine cp kx ?_;refine Aa (A5 @s0 @s2 @s3 @s4 @w1) ?_;exact As (l.length-(k+1)) (by omega) ⟨Ab,Ab,Ab,k+1,Ab,rfl,by omega,rfl⟩
 ·obtain rfl:k=l.length:=by omega
  have hlt':¬(l.length:Int)<(l.length:Int):=by omega
  refine Aa (A5 @s0 @s2 @s3 @s4 @hlt') ?_;exact Ad
end Pe
end
section
namespace Pe
open _root_.Go.Proofs.Tryz
open Go Go.RowKit Co Sg Ac It Sl Tp Sr Ho
set_option maxRecDepth 100000
set_option maxHeartbeats 8000000
abbrev Lu(a:Ac.Act)(t:By):Ac.Act:={ a with text:=t }
theorem Zh0(ps:List Int)(l:List Ac.Act)(c:Chn)(a:Ac.Act)(hk:a.kind=1):AC prog 80 [Ie ps l,AN c,KM wP,Am a] [] (Am (Lu a [112])) []:=by
 obtain⟨a1,a2,a3,a4,a5,a6,a7,a8,a9,a10,a11,⟨b1,b2,b3⟩,a12,a13,a14,a15,⟨g1,g2⟩⟩:=a;simp only at hk
 subst hk;refine Ai [152,153,7,76,11,10] [] func80 ?_;refine run ?_;exact AQ
theorem ZgU:AC prog 78 [KM wP] [] (.it .i64 1) []:=by
 have k:=Gd 0 16 (by decide) (by decide)
 rw[show AM 0 16=0 from rfl]at k
 refine Ai [10] [] func78 ?_;refine run ?_;refine cp k ?_;refine run ?_;exact Ad
theorem Zgu(ps:List Int)(l:List Ac.Act)(id:By)(c:Chn)(b p:Ac.Act)(key:Key)(time:Int)
  (k1:AC prog 7 [.it .i64 0] [] (.st id) [])
  (k2:AC prog 75 [Ie ps l,.st id] [] (AN c) [])
  (kb:AC prog 21 [.it .i64 0,.it .i64 0,.it .i64 time] [] (Am b) [])
  (hc:0<c.acts.length)(hcl:c.acts.length≤1000)(hk:c.keys.length=1)
  (kky:AC prog 11 [.it .i64 0,.it .i64 0] [] (Bx key) [])
  (ksg:AC prog 57 [Bx key,Am (Lu (Ej c 1 time) [112])] [] (Am p) []):
  AC prog 29 [Ie ps l,.it .i64 0,.it .i64 time,KM wP] [] (Am p) []:=by
 have kmv:=Zgl c (by omega) (fun e=>by rw[e]at hk;exact absurd hk (by decide))
 rw[hk,show((1-1:Nat):Int)=0 from rfl]at kmv
 have kkd:=ZgU;have kdr:=Zjz c 1 time (by omega)
 have kfi:=Zh0 ps l c (Ej c 1 time) rfl;have kps:=Gd 9 12 (by decide) (by decide)
 rw[show AM 9 12=9 from rfl]at kps
 have q0:(c.acts.length:Int)>0:=by omega
 have q1':¬(Ej c 1 time).kind<0:=by show ¬(1:Int)<0;decide
 generalize Lu (Ej c 1 time) [112]=fl at *;generalize Ej c 1 time=dr at *;refine Ai [7,75,21,76,11,78,77,79,80,57,10,81] [] func29 ?_;refine run ?_;refine cp k1 ?_;refine run ?_;refine cp k2 ?_;refine run ?_;refine cp kb ?_;refine Aa @q0 ?_;refine cp kmv ?_;refine run ?_;refine cp kky ?_;refine run ?_;refine cp kkd ?_;refine run ?_;refine cp kdr ?_;refine Aa @q1' ?_;refine cp kfi ?_;refine run ?_;refine cp ksg ?_;refine run ?_;refine cp kps ?_;refine run ?_;exact AQ
end Pe
end
section
namespace Pe
open _root_.Go.Proofs.Tryz
open Go Go.RowKit Co Sg Ac It Sl Tp Ho
set_option maxRecDepth 100000
set_option maxHeartbeats 4000000
theorem Zac(ps:List Int)(m:Nat):∀x∈(AY m).map An,(It.right x&&It.signed ps x)=true:=fun x hx=>by
 obtain⟨a,ha,rfl⟩:=List.mem_map.1 hx;have :=act_signed ps (NO m a ha);rw[this.1,this.2];rfl
theorem Ve(ps:List Int){m:Nat}(hm:m≤2):(Cb ps ((AY m).map An)).Perm ((AY m).map An):=by
 have h0:=OD ps _ [] (Zac ps m) (by rw[List.nil_append];exact RR m hm)
 rwa[List.nil_append]at h0
theorem Vf(ps:List Int){m:Nat}(hm:m≤2):∃k:List Ac.Act,k.Perm (AY m)∧Cb ps ((AY m).map An)=k.map An:=by
 have hp:=Ve ps hm;refine⟨(Cb ps ((AY m).map An)).map (·.act),?_,?_⟩
 ·have :=hp.map (fun x:It.Item=>x.act)
  rw[List.map_map]at this;have e:(AY m).map ((fun x:It.Item=>x.act)∘An)=AY m:=(List.map_congr_left fun a _=>rfl).trans (List.map_id _)
  rwa[e]at this
 ·rw[List.map_map]
  refine((List.map_congr_left fun x hx=>?_).trans (List.map_id _)).symm
  obtain⟨a,_,rfl⟩:=List.mem_map.1 (hp.mem_iff.1 hx);rfl
theorem Ot{m:Nat}(hm:m≤2):AC prog 6 [.sl .ro (((AY m).map An).map Ao)] [] (BC AG (Cb AG ((AY m).map An))) []:=
 QT _ (by rw[List.length_map];unfold AY;rw[List.length_append,List.length_take];show 4+min m 2≤900;omega) fun x hx=>EA ((Bool.and_eq_true _ _).mp (Zac [] m x hx)).1
theorem ZdF{m:Nat}(hm:m<2):Er Cc (Lu (Ej (AF Aj (LH.take (2+m))) 1 ((2+m:Nat):Int)) [112])=if m=0 then ET else Fz:=by
 have hlen:(LH.take (2+m)).length=2+m:=by
  rw[List.length_take];show min (2+m) 4=_
  omega
 have e:Lu (Ej (AF Aj (LH.take (2+m))) 1 ((2+m:Nat):Int)) [112]={ act0 with author:=Aj,seq:=((2+m:Nat):Int),prev:=Dp m,kind:=1,time:=((2+m:Nat):Int),text:=[112] }:=by
  unfold Ej;rw[J8,ED,hlen,Ro (by omega)]
 rw[e];match m,hm with
 |0,_=>exact ZkI
 |1,_=>exact ZkH
theorem U3{m:Nat}(hm:m<2):AC prog 29 [BC AG (Cb AG ((AY m).map An)),.it .i64 0,.it .i64 ((2+m:Nat):Int),KM wP] [] (Am (if m=0 then ET else Fz)) []:=by
 obtain⟨k,hp,he⟩:=Vf AG (m:=m) (by omega)
 rw[he];have hlen:(LH.take (2+m)).length=2+m:=by
  rw[List.length_take];show min (2+m) 4=_
  omega
 have hacts:(AF Aj (LH.take (2+m))).acts=LH.take (2+m):=ED _ _;have hkeys:(AF Aj (LH.take (2+m))).keys=[⟨0,Cc.pub,0⟩]:=by
  rw[show 2+m=1+(m+1) by omega]
  exact Xi (by omega)
 have k2:=Zjf AG k Aj (by rw[hp.length_eq];unfold AY;rw[List.length_append,List.length_take];show 4+min m 2≤100;omega) (fun a ha=>NO m a (hp.mem_iff.1 ha))
 rw[(Xy (by omega) hp).chain,TB (by omega),if_pos rfl]at k2
 have hsg:=ZdF hm;have h16:Aj.length≤140737488355328:=by decide
 have ksg:=X0 Cc (Lu (Ej (AF Aj (LH.take (2+m))) 1 ((2+m:Nat):Int)) [112]) ⟨by show(AF Aj _).id.length≤_;rw[J8];exact h16,by show(0:Nat)≤_;omega,by show(0:Nat)≤_;omega,by show(1:Nat)≤_;omega,(fun s hs=>nomatch hs),by show(0:Nat)≤_;omega,by show(0:Nat)≤_;omega⟩ (by show(0:Nat)≤_;omega) (by show(0:Nat)≤_;omega) (by decide)
 rw[hsg]at ksg;have km:=Zgu AG k Aj (AF Aj (LH.take (2+m))) (Gx 0 0 ((2+m:Nat):Int)) _ Cc ((2+m:Nat):Int) QI k2 (PZ 0 0 _ (by decide)) (by rw[hacts,hlen];omega) (by rw[hacts,hlen];omega) (by rw[hkeys];rfl) U4 ksg
 rw[show BC AG (k.map An)=Ie AG k by show AV.agg _=AV.agg _;rw[List.map_map];rfl]
 exact km
end Pe
end
section
namespace Pe
open _root_.Go.Proofs.Tryz
open Go Go.RowKit Co Sg Ac It Sl Tp Sr Ho
set_option maxRecDepth 100000
set_option maxHeartbeats 4000000
def DV:List Ac.Act:=[BN,Bl,EG]
theorem Zj2:∀a∈DV,Ac.right a=true:=fun a ha=>by
 unfold DV at ha;simp only[List.mem_cons,List.not_mem_nil,or_false]at ha;rcases ha with rfl|rfl|rfl
 ·exact VT
 ·exact Rf
 ·exact VS
theorem Zad:(DV.map dg).Nodup:=by
 show[dg BN,dg Bl,dg EG].Nodup
 rw[Mg,Tg,Te];decide
theorem PT(id:By):Bz DV id=if id=Aj then [BN]else if id=Dt then [Bl]else if id=DU then [EG]else []:=by
 by_cases e0:id=Aj
 ·subst e0;rfl
 rw[if_neg e0];by_cases e1:id=Dt
 ·subst e1;rfl
 rw[if_neg e1];by_cases e2:id=DU
 ·subst e2;rfl
 rw[if_neg e2];refine List.filter_eq_nil_iff.2 fun a ha=>?_
 unfold DV at ha;simp only[List.mem_cons,List.not_mem_nil,or_false]at ha;intro e;have e:=beq_iff_eq.1 e;rcases ha with rfl|rfl|rfl
 ·exact e0 e.symm
 ·exact e1 e.symm
 ·exact e2 e.symm
theorem Zha:Inv DV DV:=by
 refine⟨.refl _,Zad,fun id=>?_⟩
 show CF id (Bz DV id)
 rw[PT];split
 ·rename_i e;subst e;exact JW Sp
 ·split
  ·rename_i e;subst e;exact JW Sn
  ·split
   ·rename_i e;subst e;exact JW Xx
   ·exact OY id
theorem Vg(ps:List Int):∀x∈DV.map An,(It.right x&&It.signed ps x)=true:=fun x hx=>by
 obtain⟨a,ha,rfl⟩:=List.mem_map.1 hx;have :=act_signed ps (Zj2 a ha);rw[this.1,this.2];rfl
theorem ZdY(ps:List Int):(Cb ps (DV.map An)).Perm (DV.map An):=by
 have h0:=OD ps _ [] (Vg ps) (by rw[List.nil_append,List.map_map];exact Zad)
 rwa[List.nil_append]at h0
theorem Zdp:AC prog 6 [.sl .ro ((DV.map An).map Ao)] [] (BC AG (Cb AG (DV.map An))) []:=
 QT _ (by rw[List.length_map];exact(by decide:(3:Nat)≤900)) fun x hx=>EA ((Bool.and_eq_true _ _).mp (Vg [] x hx)).1
theorem QH{id:By}(h:Bz DV id≠[]):AC prog 8 [BC AG (Cb AG (DV.map An)),.st id] [] (AN (AF id (Bz DV id))) []:=
 Tv Zha (ZdY AG) (by decide:(3:Nat)≤19) rfl h
theorem Zdv:AC prog 8 [BC AG (Cb AG (DV.map An)),.st Aj] [] (AN Km) []:=by
 have h:=QH (id:=Aj) (fun e=>nomatch e)
 rw[PT,if_pos rfl,ZjK]at h;exact h
def Tz:Chn:=AF Dt [Bl]
def Ty:Chn:=AF DU [EG]
theorem Zdu:AC prog 8 [BC AG (Cb AG (DV.map An)),.st Dt] [] (AN Tz) []:=by
 have h:=QH (id:=Dt) (fun e=>nomatch e)
 rw[PT,if_neg (by decide),if_pos rfl]at h
 exact h
theorem Zdt:AC prog 8 [BC AG (Cb AG (DV.map An)),.st DU] [] (AN Ty) []:=by
 have h:=QH (id:=DU) (fun e=>nomatch e)
 rw[PT,if_neg (by decide),if_neg (by decide),if_pos rfl]at h
 exact h
theorem ZjJ:Tz.keys=[⟨0,E2.pub,0⟩]:=rfl
theorem ZjI:Ty.keys=[⟨0,E1.pub,0⟩]:=rfl
theorem QR:SetupK AG Aj Dt DU Cc E2 E1 rL BN Bl EG B5 ET Fz ⟨1,175170348431980705⟩ ⟨2,854236077641602239⟩ E2.pub E1.pub Km Tz Ty
  ((Cb AG (DV.map An)).map Ao) ((Cb AG ((AY 0).map An)).map Ao) ((Cb AG ((AY 1).map An)).map Ao) ((Cb AG ((AY 2).map An)).map Ao) where
 begin0:=ZdA
 begin1:=U5
 begin2:=Zdz
 set0:=Zdp
 set1:=Ot (m:=0) (by decide)
 set2:=Ot (m:=1) (by decide)
 set3:=Ot (m:=2) (by decide)
 act0:=QI
 act1:=U6
 act2:=ZdB
 less:=Zdw
 of0:=Zdv
 of1:=Zdu
 of2:=Zdt
 keys1:=ZjJ
 keys2:=ZjI
 key0:=U4
 key1:=Zdy
 key2:=Zdx
 setup:=Zdo
 make1:=U3 (m:=0) (by decide)
 make2:=U3 (m:=1) (by decide)
 part1:=Zds
 part2:=Zdr
 rkey:=Zdq
theorem ZdT(n:Int)(hn:Db n):AC prog 5 [.it .i64 n] [] (.tup [.sl (.own 0) (((AY (AM n 3).toNat).map An).map Ao),Bx rL]) [.buf (4+(AM n 3).toNat) 61 49]:=by
 have hp:=FN n (m:=3) (by decide)
 have h3:AM n 3=0∨AM n 3=1∨AM n 3=2:=by omega
 rcases h3 with h|h|h
 ·rw[h];exact ZdS QR n hn h
 ·rw[h];exact ZdR QR n hn h
 ·rw[h];exact ZdQ QR n hn h
theorem ZdU(n:Int)(hn:Db n)(T:Ae):AC prog 5 [.it .i64 n] T (.tup [.sl (.own T.length) (((AY (AM n 3).toNat).map An).map Ao),Bx rL]) (T++[.buf (4+(AM n 3).toNat) 61 49]):=
 AC.fresh1 (ZdT n hn) (by rfl) (by rfl) (by rfl) T
end Pe
end
section
namespace Pe
open _root_.Go.Proofs.Tryz
open Go Go.RowKit Co Sg Ac It Sl Tp Ho
set_option maxRecDepth 100000
set_option maxHeartbeats 8000000
theorem Ze7(r:Key)(c d:Chn)(base home key time:Int)(a:Ac.Act)(hb:1≤base∧base≤(c.acts.length:Int))(hh:0≤home∧home<20)(hk:1≤key∧key≤2305843009213693950)(ht:0≤time∧time≤1099511627776)
  (kcut:AC prog 41 [AN c,.it .i64 base] [] (AN d) [])(hg:d.gen=c.gen)(ks:AC prog 42 [AN d] [] (.tup [Am a,.bo true]) [])
  (hr:r.right=true)(hrs:0≤r.secret∧r.secret≤2305843009213693950)(ham:a.m=r.pub)(hsh:Sh (Ax ⟨c.id,base,d.prev,d.gen,home,key,time,A0⟩))(hri:It.right (Ax (It.signClaim r ⟨c.id,base,d.prev,d.gen,home,key,time,A0⟩))=true):
  AC prog 9 [Bx r,AN c,.it .i64 base,.it .i64 home,.it .i64 key,.it .i64 time] [] (.tup [Br (It.signClaim r ⟨c.id,base,d.prev,d.gen,home,key,time,A0⟩),.it .i64 0]) []:=by
 have kp:=Q1 key hk.1 hk.2;have krt:=Nh r (by omega)
 rw[hr]at krt;have ksg:=ZdG r ⟨c.id,base,d.prev,d.gen,home,key,time,A0⟩ hsh (by omega)
 have kri:=F9 _ (EA hri);rw[hri]at kri;have kof:=Hg (It.signClaim r ⟨c.id,base,d.prev,d.gen,home,key,time,A0⟩);generalize It.signClaim r ⟨c.id,base,d.prev,d.gen,home,key,time,A0⟩=cl at *;have h1:¬base<1:=by omega
 have h2:¬base>(c.acts.length:Int):=by omega
 have h3:¬home<0:=by omega
 have h4:¬home≥20:=by omega
 have h5:¬time<0:=by omega
 have h6:¬time>1099511627776:=by omega
 have hq:(c.gen==c.gen)=true:=by simp
 have hq2:(r.pub==r.pub)=true:=by simp
 obtain⟨did,dacts,dkeys,dprev,dgen,dfork⟩:=d;simp only at hg
 subst hg;refine Ai [40,41,42,43,44,13,45] [] func9 ?_;refine Aa (A4 @h1 @h2 @h3 @h4) ?_;refine cp kp ?_;refine Aa (an @h5 @h6) ?_;refine cp kcut ?_;refine Aa @hq ?_;refine cp ks ?_;refine run ?_;refine cp krt ?_;refine Aa (an @ham @hq2) ?_;refine cp ksg ?_;refine run ?_;refine cp kof ?_;refine run ?_;refine cp kri ?_;refine run ?_;exact Ad
theorem Zed(ps:List Int)(items:List AV)(c d:Chn)(cl:It.Claim)(a:Ac.Act)(hri:It.right (Ax cl)=true)(kof:AC prog 8 [.agg [AB ps,.sl .ro items],.st cl.actor] [] (AN c) [])(hb:cl.base≤(c.acts.length:Int))
  (kcut:AC prog 41 [AN c,.it .i64 cl.base] [] (AN d) [])(hp:cl.prev=d.prev)(hg:cl.gen=c.gen)(hg2:cl.gen=d.gen)(ks:AC prog 42 [AN d] [] (.tup [Am a,.bo true]) [])
  (kcl:AC prog 48 [.it .i64 a.m,Br cl] [] (.bo true) []):AC prog 12 [.agg [AB ps,.sl .ro items],Br cl] [] (.bo true) []:=by
 have kri:=F9 _ (EA hri);rw[hri]at kri;have kofc:=Hg cl;have h1:¬cl.base>(c.acts.length:Int):=by omega
 have hq1:(cl.prev==cl.prev)=true:=by simp
 have hq2:(cl.gen==cl.gen)=true:=by simp
 obtain⟨did,dacts,dkeys,dprev,dgen,dfork⟩:=d;obtain⟨cid,cacts,ckeys,cprev,cgen,cfork⟩:=c;simp only at hg hg2 hp h1
 subst hg hg2 hp;refine Ai [13,45,8,41,42,48] [] func12 ?_;refine run ?_;refine cp kofc ?_;refine run ?_;refine cp kri ?_;refine run ?_;refine cp kof ?_;refine Aa @h1 ?_;refine cp kcut ?_;refine Aa (an @hq1 @hq2) ?_;refine cp ks ?_;refine run ?_;refine cp kcl ?_;refine run ?_;exact Ad
end Pe
end
section
namespace Pe
open _root_.Go.Proofs.Tryz
open Go Go.RowKit Co Sg Ac It Sl Tp Sr Ho
set_option maxRecDepth 100000
set_option maxHeartbeats 4000000
theorem ZeP(c:It.Claim):decide (rest (Ax c)=B2)=true:=decide_eq_true rfl
theorem ZeQ(b:It.Ballot):decide (rest (Cj b)=B2)=true:=decide_eq_true rfl
theorem IN{n lo hi:Int}(h:lo≤n∧n≤hi):wi n lo hi=true:=by unfold wi;rw[decide_eq_true h.1,decide_eq_true h.2];rfl
theorem Zfp{b:Nat}(hb:b<3):dig (Dp b)=true:=by
 match b,hb with
 |0,_=>decide
 |1,_=>decide
 |2,_=>decide
theorem Xp{i:Nat}(h:i<3):1≤kC i∧kC i≤2305843009213693950:=by
 match i,h with
 |0,_=>exact⟨by decide,by decide⟩
 |1,_=>exact⟨by decide,by decide⟩
 |2,_=>exact⟨by decide,by decide⟩
theorem Zv{i b h:Nat}(hi:i<3)(hb:b<3)(hh:h<4){s:Sig}(hs:Bu s=true):It.right (Ax { E8 Aj ((2+b:Nat):Int) (Dp b) (h:Int) (kC i) ((10+i:Nat):Int)with sig:=s })=true:=by
 show(Fh { E8 Aj ((2+b:Nat):Int) (Dp b) (h:Int) (kC i) ((10+i:Nat):Int)with sig:=s }&&decide (rest (Ax _)=B2))=true
 rw[ZeP,Bool.and_true];unfold Fh Gk EP E8;simp only
 rw[show Bg Aj=true by decide,IN (show(1:Int)≤((2+b:Nat):Int)∧((2+b:Nat):Int)≤1073741824 by omega),Zfp hb,IN (show(0:Int)≤0∧(0:Int)≤1073741824 by omega),IN (show(0:Int)≤(h:Int)∧(h:Int)≤19 by omega),IN (Xp hi),IN (show(0:Int)≤((10+i:Nat):Int)∧((10+i:Nat):Int)≤1099511627776 by omega),hs]
 rfl
theorem NH{i b h:Nat}(hi:i<3)(hb:b<3)(hh:h<4):It.right (Ax (Ca i b h))=true:=Zv hi hb hh (U8 rL _)
theorem Zjp{i b h:Nat}(hi:i<3)(hb:b<3)(hh:h<4):It.right (Ax (E8 Aj ((2+b:Nat):Int) (Dp b) (h:Int) (kC i) ((10+i:Nat):Int)))=true:=Zv hi hb hh (s:=A0) (by decide)
theorem Zae{v:Nat}{d:By}(hv:v<4)(hd:d.length=32){s:Sig}(hs:Bu s=true):It.right (Cj ⟨(v:Int),Aj,0,d,40,s⟩)=true:=by
 show(Ga ⟨(v:Int),Aj,0,d,40,s⟩&&decide (rest (Cj _)=B2))=true
 rw[ZeQ,Bool.and_true];unfold Ga Gk EP;simp only
 rw[show Bg Aj=true by decide,IN (show(0:Int)≤(v:Int)∧(v:Int)≤19 by omega),IN (show(0:Int)≤0∧(0:Int)≤1073741824 by omega),show dig d=true from decide_eq_true hd,IN (show(0:Int)≤40∧(40:Int)≤1099511627776 by omega),hs]
 rfl
end Pe
end
section
namespace Pe
open _root_.Go.Proofs.Tryz
open Go Go.RowKit Co Sg Ac It Sl Tp Sr Ho
set_option maxRecDepth 100000
def JG(st:List (Nat×Nat)×List Int)(v:Nat×Nat):List (Nat×Nat)×List Int:=
 if v.1<3∧0≤st.2.getD v.1 0∧st.2.getD v.1 0≠(v.2:Int)then st else(st.1++[v],st.2.set v.1 (v.2:Int))
def Qm(L:List (Nat×Nat)):List (Nat×Nat)×List Int:=L.foldl JG ([],[-1,-1,-1])
structure VOk(n:Nat)(st:List (Nat×Nat)×List Int):Prop where
 len:st.2.length=3
 lt:∀p∈st.1,p.1<4∧p.2<n
 ch:∀p∈st.1,p.1<3→st.2.getD p.1 0=(p.2:Int)
theorem VOk.step{n:Nat}{st:List (Nat×Nat)×List Int}(h:VOk n st){v:Nat×Nat}(hv:v.1<4∧v.2<n):VOk n (JG st v):=by
 unfold JG;split
 ·exact h
 ·rename_i hn
  refine⟨by rw[List.length_set];exact h.len,fun p hp=>?_,fun p hp hp3=>?_⟩
  ·rcases List.mem_append.1 hp with hp|hp
   ·exact h.lt p hp
   ·rw[List.mem_singleton.1 hp];exact hv
  ·have hl:=h.len
   rcases List.mem_append.1 hp with hp|hp
   ·have hc:=h.ch p hp hp3
    by_cases e:v.1=p.1
    ·have hvp:(v.2:Int)=(p.2:Int):=by
      rw[e,hc]at hn;have h0:(0:Int)≤(p.2:Int):=Int.natCast_nonneg _;exact(Decidable.not_not.1 fun ne=>hn ⟨hp3,h0,fun e2=>ne e2.symm⟩)
     rw[e,List.getD_eq_getElem?_getD,List.getElem?_set_self (by omega)]
     exact hvp
    ·rw[List.getD_eq_getElem?_getD,List.getElem?_set_ne e,←List.getD_eq_getElem?_getD]
     exact hc
   ·rw[List.mem_singleton.1 hp]at hp3 ⊢
    rw[List.getD_eq_getElem?_getD,List.getElem?_set_self (by omega)]
    rfl
theorem VOk.fold{n:Nat}:∀(L:List (Nat×Nat)) (st:List (Nat×Nat)×List Int),VOk n st→(∀v∈L,v.1<4∧v.2<n)→VOk n (L.foldl JG st)
 |[],_,h,_=>h
 |v::L,st,h,hL=>by
  rw[List.foldl_cons];exact VOk.fold L _ (h.step (hL v (by simp))) fun x hx=>hL x (List.mem_cons_of_mem _ hx)
theorem Uu{n:Nat}(L:List (Nat×Nat))(hL:∀v∈L,v.1<4∧v.2<n):VOk n (Qm L):=VOk.fold L _ ⟨rfl,(fun _ h=>nomatch h),(fun _ h=>nomatch h)⟩ hL
theorem VOk.one{n:Nat}{st:List (Nat×Nat)×List Int}(h:VOk n st):∀x∈st.1,∀y∈st.1,x.1=y.1→x.1<3→x.2=y.2:=fun x hx y hy e hl=>by
 have h1:=h.ch x hx hl;have h2:=h.ch y hy (by omega)
 rw[e,h2]at h1;exact(Int.ofNat.inj h1).symm
def Ks(D:Nat→By)(v:Nat×Nat):It.Ballot:=It.signBallot (BO v.1) ⟨(v.1:Int),Aj,0,D v.2,40,A0⟩
def OR(D:Nat→By)(n:Nat):List It.Ballot:=(List.range 4).flatMap fun f=>(List.range n).map fun o=>Ks D (f,o)
theorem Zfy(D:Nat→By){n:Nat}(hn:n≤3):(OR D n).length≤12:=by
 unfold OR;simp only[List.range_succ_eq_map,List.range_zero,List.map_nil,List.map_cons,List.flatMap_cons,List.flatMap_nil,List.length_append,List.length_map,List.length_range,List.length_nil];omega
theorem Zfx(D:Nat→By){n:Nat}{v:Nat×Nat}(hv:v.1<4∧v.2<n):Ks D v∈OR D n:=
 List.mem_flatMap.2 ⟨v.1,List.mem_range.2 hv.1,List.mem_map.2 ⟨v.2,List.mem_range.2 hv.2,rfl⟩⟩
end Pe
end
section
namespace Pe
open _root_.Go.Proofs.Tryz
open Go Go.RowKit Co Sg Ac It Sl Tp Sr Ho
set_option maxRecDepth 100000
set_option maxHeartbeats 4000000
theorem E9{b:Nat}(hb:b<3):cH b=⟨Aj,LH.take (2+b),[⟨0,Cc.pub,0⟩],Dp b,0,false⟩:=by
 have h1:=ED Aj (LH.take (2+b));have h2:=J8 Aj (LH.take (2+b));have h3:=Ma Aj (LH.take (2+b));have h4:=Pq Aj (LH.take (2+b));have h5:=Ro hb;have h6:=Xi (b:=1+b) (by omega)
 rw[show 1+(1+b)=2+b by omega]at h6
 unfold cH;generalize AF Aj (LH.take (2+b))=c at *;obtain⟨x1,x2,x3,x4,x5,x6⟩:=c;simp only at h1 h2 h3 h4 h5 h6
 rw[h1,h2,h3,h4,h5,h6]
theorem NX{m:Nat}(hm:m≤2):(LH.take (2+m)).length=2+m:=by
 rw[List.length_take];show min (2+m) 4=_
 omega
theorem PR{m:Nat}(hm:m≤2):(cH m).acts.length=2+m:=by
 rw[E9 (by omega)]
 exact NX hm
theorem Y5{m b:Nat}(hm:m≤2)(hb:b≤m):AC prog 41 [AN (cH m),.it .i64 ((2+b:Nat):Int)] [] (AN (cH b)) []:=by
 have hl:=PR hm;by_cases e:b=m
 ·subst e
  exact ZiY (cH b) (2+b) (by omega) (by omega) (by omega) (by omega)
 ·have e2:(⟨(cH m).id,(cH m).acts.take (2+b),[⟨0,Cc.pub,0⟩],((cH m).acts.getD (2+b) act0).prev,0,false⟩:Chn)=cH b:=by
   rw[E9 (show b<3 by omega),E9 (show m<3 by omega)]
   rcases(by omega:(m=1∧b=0)∨(m=2∧b=0)∨(m=2∧b=1))with⟨rfl,rfl⟩|⟨rfl,rfl⟩|⟨rfl,rfl⟩
   ·rfl
   ·rfl
   ·rfl
  have k:=ZiX (cH m) (2+b) ⟨0,Cc.pub,0⟩ (by omega) (by omega) (by omega) (by rw[E9 (show m<3 by omega)]) (by show(0:Int)≤((2+b:Nat):Int);omega) (fun a ha=>by
   rw[E9 (show m<3 by omega)]at ha
   have ha:=List.mem_of_mem_take ha;unfold LH at ha;simp only[List.mem_cons,List.not_mem_nil,or_false]at ha;rcases ha with rfl|rfl|rfl|rfl
   ·exact(by decide:¬(0:Int)=18)
   ·exact(by decide:¬(19:Int)=18)
   ·exact(by decide:¬(1:Int)=18)
   ·exact(by decide:¬(1:Int)=18))
  rwa[e2]at k
theorem Vd{b:Nat}(hb:b≤2):AC prog 42 [AN (cH b)] [] (.tup [Am B5,.bo true]) []:=
 Zes (cH b) B5 (by rw[PR hb];omega) (by rw[E9 (by omega)];exact Vb (by omega))
theorem Wu{m:Nat}(hm:m≤2):AC prog 8 [BC AG (Cb AG ((AY m).map An)),.st Aj] [] (AN (cH m)) []:=by
 obtain⟨k,hp,he⟩:=Vf AG hm;have hb:=TB hm Aj;rw[if_pos rfl]at hb;have h:=Tv (ps:=AG) (l:=Cb AG ((AY m).map An)) (Xy hm hp) (Ve AG hm) (by unfold AY;rw[List.length_append,List.length_take];show 4+min m 2≤19;omega) rfl (id:=Aj) (by
  rw[hb];intro e;have :=NX hm;rw[e,List.length_nil]at this;omega)
 rwa[hb]at h
theorem ZgI{m b h i:Nat}(hm:m≤2)(hb:b≤m)(hh:h<4)(hi:i<3):
  AC prog 9 [Bx rL,AN (cH m),.it .i64 ((2+b:Nat):Int),.it .i64 (h:Int),.it .i64 (kC i),.it .i64 ((10+i:Nat):Int)] [] (.tup [Br (Ca i b h),.it .i64 0]) []:=by
 have hl:=PR hm;have ec:(⟨(cH m).id,((2+b:Nat):Int),(cH b).prev,(cH b).gen,(h:Int),kC i,((10+i:Nat):Int),A0⟩:It.Claim)=E8 Aj ((2+b:Nat):Int) (Dp b) (h:Int) (kC i) ((10+i:Nat):Int):=by
  rw[E9 (show b<3 by omega),E9 (show m<3 by omega)]
  rfl
 have k:=Ze7 rL (cH m) (cH b) ((2+b:Nat):Int) (h:Int) (kC i) ((10+i:Nat):Int) B5 (by omega) (by omega) (Xp hi) (by omega) (Y5 hm hb) (by rw[E9 (show b<3 by omega),E9 (show m<3 by omega)]) (Vd (by omega)) Re (by decide) rfl
  (by rw[ec];exact H2 (Zjp hi (by omega) hh)) (by rw[ec];exact NH hi (by omega) hh)
 rw[ec]at k;exact k
theorem Zgw{m b h i:Nat}(hm:m≤2)(hb:b≤m)(hh:h<4)(hi:i<3):
  AC prog 12 [BC AG (Cb AG ((AY m).map An)),Br (Ca i b h)] [] (.bo true) []:=by
 have hl:=PR hm;have hr:=NH hi (show b<3 by omega) hh
 have hs:=Zu hr;have kc:=Zs B5.m (Ca i b h) (H2 hr) (by decide) ⟨by omega,by omega⟩
 rw[show It.claimed B5.m (Ca i b h)=true from Zr Re _]at kc
 exact Zed AG _ (cH m) (cH b) (Ca i b h) B5 hr (Wu hm) (by rw[hl];show((2+b:Nat):Int)≤_;omega) (Y5 hm hb) (by rw[E9 (show b<3 by omega)];rfl) (by rw[E9 (show m<3 by omega)];rfl) (by rw[E9 (show b<3 by omega)];rfl) (Vd (by omega)) kc
theorem ZcP(n:Nat):-9223372036854775808≤(BO n).secret∧(BO n).secret≤9223372036854775807:=by
 have h:(BO n).right=true:=UJ n;obtain⟨h1,h2,h3⟩:=Key.right_iff.1 h;omega
theorem Zgx{v:Nat}(hv:v<4){d:By}(hd:d.length=32):AC prog 16 [Bx (BO v),C9 ⟨(v:Int),Aj,0,d,40,A0⟩] [] (C9 (It.signBallot (BO v) ⟨(v:Int),Aj,0,d,40,A0⟩)) []:=
 ZdH _ _ (H2 (Zae hv hd (by decide))) (ZcP v)
theorem ZgJ{v:Nat}(hv:v<4){d:By}(hd:d.length=32):It.right (Cj (It.signBallot (BO v) ⟨(v:Int),Aj,0,d,40,A0⟩))=true:=
 Zae hv hd (U8 (BO v) _)
theorem ZiR:∀d∈dC,d.length=32:=by decide
theorem Zw{i b h:Nat}(hi:i<3)(hb:b<3)(hh:h<4):(It.digest (Ax (Ca i b h))).length=32:=ZiR _ (Y4 hi hb hh)
end Pe
end
section
namespace Pe
open _root_.Go.Proofs.Tryz
open Go Go.RowKit Co Sg Ac It Sl Tp Sr Ho
set_option maxRecDepth 100000
theorem Zf{α:Type _}{p:α→Bool}:∀{L:List α},L.Nodup→(∀x∈L,∀y∈L,p x=true→p y=true→x=y)→L.countP p=if(L.find? p).isSome=true then 1 else 0
 |[],_,_=>rfl
 | x::L,hn,hu=>by
  obtain⟨h1,h2⟩:=List.nodup_cons.1 hn;rw[List.countP_cons,List.find?_cons]
  cases hx:p x with
  |true=>
   have h0:L.countP p=0:=List.countP_eq_zero.2 fun y hy hpy=>h1 (by rw[hu x (by simp) y (by simp[hy]) hx hpy];exact hy)
   rw[h0];rfl
  |false=>
   rw[Zf h2 fun a ha b hb=>hu a (List.mem_cons_of_mem _ ha) b (List.mem_cons_of_mem _ hb)]
   rfl
def IM(l:List It.Item)(c:It.Claim):Bool:=decide (3≤(C1 l (It.digest (Ax c)) Aj 0).length)
section
variable {Q:List It.Ballot} {l:List It.Item} {m:Nat} {C:List It.Claim} {B:List It.Ballot}
theorem HSet.ndC(h:HSet Q l m C B):C.Nodup:=by
 have h1:=(h.perm.map It.digest).nodup_iff.1 h.nd;rw[List.map_append,List.map_append,List.nodup_append,List.nodup_append]at h1;exact List.Pairwise.imp (fun {a b} hab e=>hab (by rw[e])) (List.pairwise_map.1 (List.pairwise_map.1 h1.2.1.1))
theorem HSet.count(h:HSet Q l m C B):C.countP (IM l)=if(GF l C).isSome=true then 1 else 0:=
 Zf h.ndC fun _ hx _ hy px py=>h.one hx hy (of_decide_eq_true px) (of_decide_eq_true py)
theorem HSet.res0(hw:GF l C=none):JP l m C=cH m:=by
 unfold JP;rw[hw];rfl
theorem HSet.res1(h:HSet Q l m C B){c:It.Claim}(hw:GF l C=some c):∃b:Nat,b≤m∧c.base=((2+b:Nat):Int)∧JP l m C=⟨Aj,LH.take (2+b),[⟨0,Cc.pub,0⟩,⟨((2+b:Nat):Int),c.pub,c.home⟩],It.digest (Ax c),1,false⟩:=by
 obtain⟨i,b,hh,hi,hb,hh4,rfl⟩:=h.cl c (List.mem_of_find?_eq_some hw)
 have hm:=h.hm;refine⟨b,hb,rfl,?_⟩
 unfold JP;rw[hw];show EJ (cH b) (Ca i b hh)=_
 rw[E9 (show b<3 by omega)]
 unfold EJ;simp only[NX (show b≤2 by omega)]
 rfl
end
def Mk(m:Nat)(bs:List Int):List (Nat×Nat):=bs.map fun x=>((AM x ((1+m:Nat):Int)).toNat,(AM x 4).toNat)
def MC(n:Nat)(vs:List (Int×Int)):List (Nat×Nat):=vs.map fun v=>((AM v.1 4).toNat,(AM v.2 (n:Int)).toNat)
def FV(P:List (Nat×Nat))(o:Nat):It.Claim:=(Cn 0 P).getD o CX
def Iq(P:List (Nat×Nat))(o:Nat):By:=It.digest (Ax (FV P o))
def Ml(P:List (Nat×Nat))(V:List (Nat×Nat)):List It.Ballot:=(Qm V).1.map (Ks (Iq P))
theorem Zj1(m:Nat)(bs:List Int):∀p∈Mk m bs,p.1≤m∧p.2<4:=fun p hp=>by
 obtain⟨x,_,rfl⟩:=List.mem_map.1 hp;have h1:=FN x (m:=((1+m:Nat):Int)) (by omega)
 have h2:=FN x (m:=4) (by decide)
 constructor
 ·show(AM x _).toNat≤m
  omega
 ·show(AM x 4).toNat<4
  omega
theorem Zcl{n:Nat}(hn:0<n)(vs:List (Int×Int)):∀v∈MC n vs,v.1<4∧v.2<n:=fun p hp=>by
 obtain⟨x,_,rfl⟩:=List.mem_map.1 hp;have h1:=FN x.2 (m:=(n:Int)) (by omega)
 have h2:=FN x.1 (m:=4) (by decide)
 constructor
 ·show(AM x.1 4).toNat<4
  omega
 ·show(AM x.2 _).toNat<n
  omega
theorem Tt:∀(P:List (Nat×Nat)) (i o:Nat) (h:o<P.length),(Cn i P)[o]? = some (Ca (i+o) P[o].1 P[o].2)
 |[],_,_,h=>absurd h (Nat.not_lt_zero _)
 |(b,hh)::P,i,0,_=>rfl
 |(b,hh)::P,i,o+1,h=>by
  have :=Tt P (i+1) o (by simpa using h)
  unfold Cn;rw[List.getElem?_cons_succ,this,Nat.add_right_comm,Nat.add_assoc]
  rfl
theorem Zx{P:List (Nat×Nat)}{o:Nat}(h:o<P.length):FV P o=Ca o P[o].1 P[o].2:=by
 unfold FV;rw[List.getD_eq_getElem?_getD,Tt P 0 o h,Nat.zero_add]
 rfl
theorem Zp:∀(P:List (Nat×Nat)) (i:Nat) (p:Nat×Nat),Cn i (P++[p])=Cn i P++[Ca (i+P.length) p.1 p.2]
 |[],_,_=>rfl
 |(b,hh)::P,i,p=>by
  rw[List.cons_append];unfold Cn;rw[Zp P (i+1) p,List.cons_append,List.length_cons,Nat.add_right_comm,Nat.add_assoc]
theorem Zht{m:Nat}(hm:m≤2){P:List (Nat×Nat)}(hP:P.length≤3)(hPb:∀p∈P,p.1≤m∧p.2<4){V:List (Nat×Nat)}(hV:∀v∈V,v.1<4∧v.2<P.length):
  ∃B,HSet (OR (Iq P) P.length) (Cb AG ((AY m).map An++((Cn 0 P).map Ax++(Ml P V).map Cj))) m (Cn 0 P) B:=by
 have hk:=Uu V hV;refine E3 (fun x hx=>EA hx) (fun i b h hi hb hh=>NH hi hb hh) AG hm hP hPb _ (Zfy _ hP) _ (fun b hb=>?_) (fun b hb=>?_) (fun x hx y hy e hl=>?_)
 ·obtain⟨v,hv,rfl⟩:=List.mem_map.1 hb
  exact Zfx _ (hk.lt v hv)
 ·obtain⟨v,hv,rfl⟩:=List.mem_map.1 hb
  have :=(hk.lt v hv).1;show(0:Int)≤(v.1:Int)∧(v.1:Int)≤3
  omega
 ·obtain⟨v,hv,rfl⟩:=List.mem_map.1 hx
  obtain⟨u,hu,rfl⟩:=List.mem_map.1 hy;change(v.1:Int)=(u.1:Int)at e;change(v.1:Int)<3 at hl;show Iq P v.2=Iq P u.2
  rw[hk.one v hv u hu (by omega) (by omega)]
end Pe
end
section
namespace Pe
open _root_.Go.Proofs.Tryz
open Go Go.RowKit Co Sg Ac It Sl Tp Sr Ho
set_option maxRecDepth 100000
set_option maxHeartbeats 4000000
theorem Zg9:Inv [Bl] [Bl]:=by
 refine⟨.refl _,by simp,fun id=>?_⟩
 show CF id (Bz [Bl] id)
 by_cases e:id=Dt
 ·subst e
  exact JW Sn
 ·rw[show Bz [Bl] id=[]from List.filter_eq_nil_iff.2 fun a ha=>by
   rw[List.mem_singleton.1 ha];exact fun h=>e (beq_iff_eq.1 h).symm]
  exact OY id
theorem Zdn:AC prog 4 [] [] (.bo true) []:=by
 have hra:Ac.right Bl=true:=Rf;have k1:=U5;have k2:=Uz;have k3:=WH AG (by decide)
 have k6:AC prog 7 [.it .i64 1] [] (.st Bl.author) []:=U6;have hsgn:=act_signed AG hra;have k4:=ZaC AG [] (An Bl) UI (Nat.zero_le _) (fun x hx=>by simp at hx) (EA hsgn.1)
 rw[show Ce AG [] (An Bl)=([An Bl],true) by
  unfold Ce;rw[hsgn.1,hsgn.2];rfl]at k4
 simp only at k4
 have hby:Bz [Bl] Bl.author=[Bl]:=by simp[Bz]
 have k5:=(Zkj (l:=[An Bl]) (ps:=AG) Zg9 (.refl _) (Nat.le_of_ble_eq_true rfl) rfl (by simp)).1
 have hids:Gm [An Bl]=[Bl.author]:=by
  unfold Gm;rw[List.map_cons,List.map_nil,List.mergeSort_singleton];rfl
 have hfo:AF Bl.author [Bl]=⟨Bl.author,[Bl],[⟨0,Bl.n,Bl.m⟩],dg Bl,0,false⟩:=by
  show Bi (Tp.nilC _) _=_
  unfold Bi Tp.nilC;rfl
 rw[hids,List.map_cons,List.map_nil,hby,hfo]at k5;have k7:=Ww (Bl) (by have :=(C3 hra).to.1;omega) (by have :=(C3 hra).wraps.1;omega)
 have k8:=Gs (An (Bl)) (EA (act_signed [] hra).1);change AC _ _ _ _ (.st (dg (Bl))) _ at k8;clear hra hsgn hby hids hfo;generalize Bl=a at *;generalize AG=ps at *;have q1:(dg a==dg a)=true:=beq_self_eq_true _;have q2:(a.author==a.author)=true:=beq_self_eq_true _;generalize dg a=d at *;refine Ai [21,24,23,25,22,26,7,14] [] func4 ?_;refine run ?_;refine cp k1 ?_;refine run ?_;refine cp k2 ?_;refine run ?_;refine cp k3 ?_;refine run ?_;refine cp k7 ?_;refine run ?_;refine cp k4 ?_;refine run ?_;refine cp k5 ?_;refine run ?_;refine cp k6 ?_;refine Aa @q2 ?_;refine cp k7 ?_;refine run ?_;refine cp k8 ?_;refine Aa @q1 ?_;exact Ad
end Pe
end
section
namespace Pe
open _root_.Go.Proofs.Tryz
open Go Go.RowKit Co Sg Ac It Sl Tp Sr Ho
set_option maxRecDepth 100000
set_option maxHeartbeats 16000000
abbrev G8(v:Int×Int):AV:=.agg [.it .i64 v.1,.it .i64 v.2]
theorem Zhu(a b:Nat)(rs rp x y z:Int)(L:List AV)(id pv:By)(A:List Ac.Act)(p:Int)(T:Ae):SubOk [0,1,2,3,4,T.length+5]
  (.buf a 61 49::.cells [.it .i64 rs,.it .i64 rp]::.cells [AB AG,.sl .ro L]::.cells (Kj ⟨id,A,[⟨0,p,0⟩],pv,0,false⟩)::.buf b 43 9::(T++[.row [.it .i64 x,.it .i64 y,.it .i64 z] 3 1]))
  [.buf a 61 49,.cells [.it .i64 rs,.it .i64 rp],.cells [AB AG,.sl .ro L],.cells (Kj ⟨id,A,[⟨0,p,0⟩],pv,0,false⟩),.buf b 43 9,.row [.it .i64 x,.it .i64 y,.it .i64 z] 3 1]:=by
 have hn:[0,1,2,3,4,T.length+5].Nodup:=by
  simp only[List.nodup_cons,List.mem_cons,List.not_mem_nil,or_false,not_or,List.nodup_nil,and_true,not_false_eq_true];omega
 refine⟨hn,rfl,fun i o hi=>?_⟩
 match i,hi with
 |0,hi=>cases hi;exact⟨rfl,rfl⟩
 |1,hi=>cases hi;exact⟨rfl,rfl⟩
 |2,hi=>cases hi;exact⟨rfl,rfl⟩
 |3,hi=>cases hi;exact⟨rfl,rfl⟩
 |4,hi=>cases hi;exact⟨rfl,rfl⟩
 |5,hi=>
  cases hi
  refine⟨rfl,?_⟩
  show(_::_::_::_::_::(T++[_]))[T.length+5]? = _
  simp only[List.getElem?_cons_succ]
  simp
  rfl
theorem Zgy{N0:Nat}{B:(AX→Af→Ae→Prop)→Af→Ae→Prop}{Q:AX→Af→Ae→Prop}{K:Af→Ae→Prop}{e:Af}{S:Ae}{id:Nat}(J:Af→Ae→Prop)
  (h1:∀Kt:Af→Ae→Prop,(∀e S,J e S→Kt e S)→GC N0 B (EE id (CR Q Kt)) e S)(h2:∀e S,J e S→K e S):GC N0 B (EE id (CR Q K)) e S:=h1 K h2
theorem Zfm{k:Nat}(h:k<3):(Bv 0 (5+k)).pub=kC k:=by
 match k,h with
 |0,_=>exact Zg5
 |1,_=>exact Zg4
 |2,_=>exact Zg3
theorem ZgK(n:Int)(bs:List Int)(vs:List (Int×Int))(hn:Db n)(hbl:bs.length≤140737488351232)(hbr:∀x∈bs,-9223372036854775808≤x∧x≤9223372036854775807)(hvl:vs.length≤140737488351232)(hvr:∀x∈vs,Db x.1∧Db x.2):
  AC prog 3 [.it .i64 n,AB bs,.sl .ro (vs.map G8)] [] (.bo true) []:=by
 have ks:=Zdn;have kst:=ZdU n hn;have kid:=QI;obtain⟨m,hme⟩:∃m,(AM n 3).toNat=m:=⟨_,rfl⟩
 have hm:m≤2:=by have :=FN n (m:=3) (by decide);omega
 rw[hme]at kst;have kset:=Ot hm;have kof:=Wu hm;have hc:=E9 (show m<3 by omega)
 have hA:=NX hm;have kcl:=fun(k b h:Nat) (hk:k<3) (hb:b≤m) (hh:h<4)=>ZgI (m:=m) hm hb hh hk
 have kva:=fun(k b h:Nat) (hk:k<3) (hb:b≤m) (hh:h<4)=>Zgw (m:=m) hm hb hh hk
 rw[hc]at kof;rw[hc]at kcl;have hPo:=Zj1 m bs;have hPl:(Mk m bs).length=bs.length:=by unfold Mk;rw[List.length_map]
 have hgetP:∀k (h:k<bs.length),(Mk m bs)[k]'(by rw[hPl];exact h)=((AM bs[k] ((1+m:Nat):Int)).toNat,(AM bs[k] 4).toNat):=fun k h=>by
  unfold Mk;rw[List.getElem_map]
 generalize hP:Mk m bs=P at *;have hbz:AH 1 (bs.map (AV.it .i64))=true:=BM 1 _ (fun _=>rfl) _
 have hvz:AH 2 (vs.map G8)=true:=BM 2 _ (fun _=>rfl) _
 have hz3:Ak [AV.it .i64 (-1),.it .i64 (-1),.it .i64 (-1)]=[AV.it .i64 (-1),.it .i64 (-1),.it .i64 (-1)]:=rfl;have hrs:(rL.secret==0)=false:=by decide
 generalize hI0:(AY m).map An=I0 at *;have hI0l:I0.length=4+m:=by
  rw[←hI0,List.length_map];unfold AY;rw[List.length_append,List.length_take];show 4+min m 2=_
  omega
 refine AC.enter4 [4,6,7,8,10,11,9,12,13,14,17,16,15,18,19,20] [] [(19,([],[],[103]))] [] func3 rfl (by decide) (by decide) (Nat.le_of_ble_eq_true rfl) (by kernel_rfl) ?_;refine KE ?_
 refine run4 ?_
 refine cp ks ?_;refine run4 ?_
 refine AT (kst _) ?_;refine runf4 @hrs ?_
 by_cases h3:bs.length>3
 ·have h3':(bs.length:Int)>3:=by omega
  refine runf4 (an @h3' @hrs) ?_
  exact Ad
 have h3':¬(bs.length:Int)>3:=by omega
 by_cases h24:vs.length>24
 ·have h24':(vs.length:Int)>24:=by omega
  refine runf4 (A3 @h3' @h24' @hrs) ?_
  exact Ad
 have h24':¬(vs.length:Int)>24:=by omega
 refine runf4 (A3 @h3' @h24' @hrs) ?_
 refine cp kset ?_;refine run4 ?_
 refine cp kid ?_;refine run4 ?_
 refine cp kof ?_;generalize hLK:Cb AG I0=L0 at *;generalize LH.take (2+m)=A at *;generalize Dp m=pv at *;refine run4 ?_
 refine CG (fun x e S=>e 1=AB bs∧e 2=.sl .ro (vs.map G8)∧e 7=.bo true∧e 9=.ptr 1 0∧e 10=.ptr 2 0∧e 11=.st Aj∧e 12=.ptr 3 0 ∧ ∃(k:Nat) (acc:List It.Claim) (its:List It.Item) (T:Ae),e 14=.it .i64 (k:Int)∧e 13=.sl (.own 4) (acc.map Br)∧e 8=.sl (.own 0) (its.map Ao)∧S=.buf its.length 61 49::.cells [.it .i64 rL.secret,.it .i64 rL.pub]::.cells [AB AG,.sl .ro (L0.map Ao)]::.cells (Kj ⟨Aj,A,[⟨0,Cc.pub,0⟩],pv,0,false⟩)::.buf acc.length 43 9::T∧acc=Cn 0 (P.take k)∧its=I0++acc.map Ax∧k≤bs.length∧x=bs.length-k) bs.length _ _ (Aq.reserve 0 13 (es:=[]) (by rfl) 43 9)
  ⟨Ab,Ab,Ab,Ab,Ab,Ab,Ab,0,[],I0,[],Ab,Ab,Ab,by rw[hI0l];rfl,by rw[List.take_zero];rfl,by rw[List.map_nil,List.append_nil],Nat.zero_le _,rfl⟩ ?_
 rintro x e S ⟨s1,s2,s7,s9,s10,s11,s12,k,acc,its,T,s14,s13,s8,rfl,hacc,hits,hk,rfl⟩
 have hT1:∀y:SObj,(T++[y])[T.length]? = some y:=fun y=>by simp
 have hT2:∀y z:SObj,(T++[y]).set T.length z=T++[z]:=fun y z=>by simp
 have hal:acc.length=k:=by rw[hacc,Ts,List.length_take];omega
 have hil:its.length=4+m+k:=by rw[hits,List.length_append,hI0l,List.length_map,hal]
 have hsa:=PN acc;have hsi:=GV its;by_cases hlt:k<bs.length
 ·have hg:bs[k]? = some bs[k]:=List.getElem?_eq_getElem hlt
  have hxr:=hbr bs[k] (List.getElem_mem hlt);have hPk:=hgetP k hlt;have hPo:=hPo _ (List.getElem_mem (show k<P.length by omega))
  have hst:Cn 0 (P.take (k+1))=acc++[Ca k P[k].1 P[k].2]:=by
   rw[List.take_succ_eq_append_getElem (by omega),Zp,←hacc,List.length_take,Nat.min_eq_left (by omega),Nat.zero_add]
  have p1:=Gd bs[k] ((1+m:Nat):Int) hxr (by omega)
  have p2:=Gd bs[k] 4 hxr (by decide)
  have q1:=FN bs[k] (m:=((1+m:Nat):Int)) (by omega)
  have q2:=FN bs[k] (m:=4) (by decide)
  have e1:AM bs[k] ((1+m:Nat):Int)=(P[k].1:Int):=by
   rw[hPk];show _=((AM _ _).toNat:Int)
   omega
  have e2:AM bs[k] 4=(P[k].2:Int):=by
   rw[hPk];show _=((AM _ _).toNat:Int)
   omega
  rw[e1]at p1;rw[e2]at p2;have kc:=kcl k P[k].1 P[k].2 (by omega) hPo.1 hPo.2
  have kv:=kva k P[k].1 P[k].2 (by omega) hPo.1 hPo.2
  have kofc:=Hg (Ca k P[k].1 P[k].2);have kky:=L1 0 (5+k) (by decide) (by omega)
  change AC _ _ _ _ (.agg [.it .i64 (Bv 0 (5+k)).secret,.it .i64 (Bv 0 (5+k)).pub]) _ at kky;rw[Zfm (show k<3 by omega)]at kky
  clear hPk e1 e2 q1 q2 kcl kva hgetP;generalize P[k]=pk at *;obtain⟨b,h⟩:=pk;simp only at p1 p2 hPo hst kc kv kofc
  generalize Ca k b h=cl at *;generalize (Bv 0 (5+k)).secret=ksec at *;generalize kC k=kp at *;generalize bs[k]=xb at *;have hlt':(k:Int)<(bs.length:Int):=by omega
  have h0k:(0:Int)≤(k:Int):=by omega
  have w1:IntKind.i64.wrap ((A.length:Int)-1)=((1+m:Nat):Int):=by rw[wrap64 (by omega) (by omega)];omega
  have w2:IntKind.i64.wrap (2+(b:Int))=((2+b:Nat):Int):=by rw[wrap64 (by omega) (by omega)];omega
  have w3:IntKind.i64.wrap (5+(k:Int))=((5+k:Nat):Int):=by rw[wrap64 (by omega) (by omega)];omega
  have w4:IntKind.i64.wrap (10+(k:Int))=((10+k:Nat):Int):=by rw[wrap64 (by omega) (by omega)];omega
  have w5:=Cg (k:=k) (by omega)
  refine runf4 (A9 @s1 @s9 @s10 @s12 @s14 @hlt' @hg @hbz @w1) ?_
  refine cp p1 ?_;refine runf4 (A9 @s1 @s9 @s10 @s12 @s14 @hg @hbz @w1 @w2) ?_
  refine cp p2 ?_;refine runf4 (an @s14 @w3) ?_
  refine cp kky ?_;refine runf4 (an @s14 @w4) ?_
  refine cp kc ?_;refine runf4 (A5 @s10 @hT1 @hT2 @s13 @s8) ?_
  refine cp kv ?_;refine runf4 (A5 @s13 @hT1 @hT2 @s8 @hsa) ?_
  refine cp kofc ?_;refine runf4 (A3 @s8 @s14 @w5) ?_
  exact As (bs.length-(k+1)) (by omega) ⟨Ab,Ab,Ab,Ab,Ab,Ab,Ab,k+1,acc++[cl],its++[Ax cl],_,Ab,by rw[List.map_append];exact Ab,by rw[List.map_append];exact Ab,by rw[List.length_append,List.length_append];rfl,hst.symm,by rw[hits,List.map_append,List.append_assoc];rfl,by omega,rfl⟩
 ·obtain rfl:k=bs.length:=by omega
  rw[List.take_of_length_le (by omega)]at hacc
  have hlt':¬(bs.length:Int)<(bs.length:Int):=by omega
  clear kcl kva hgetP;obtain⟨V,hV,hV0,hV1⟩:∃V:List (Nat×Nat),(∀v∈V,v.1<4∧v.2<P.length)∧(P.length=0→V=[])∧(0<P.length→V=MC P.length vs):=by
   by_cases h:0<P.length
   ·exact⟨MC P.length vs,Zcl h vs,fun e=>by omega,fun _=>rfl⟩
   ·exact⟨[],(fun v hv=>nomatch hv),fun _=>rfl,fun e=>absurd e h⟩
  refine runf4 (A3 @s1 @s14 @hlt') ?_
  refine KL ?_;refine run4 ?_
  refine p4 (by(conv=>lhs;simp -implicitDefEqProofs (maxSteps:=4000000) (disch:=(first|omega|(simp only[List.length_append,List.length_cons,List.length_map,List.length_nil,List.length_take,List.length_drop];omega))) only[Zla,Zk9,Mp,Ky,↓Mw,Mx,Dk,↓reduceIte,Nat.reduceEqDiff,Nat.reduceAdd,Nat.reduceLT,Nat.reduceLeDiff,Nat.reduceMul,Nat.reduceSub,Int.reduceToNat,Int.reduceAdd,Int.reduceSub,Int.reduceMul,Int.reduceNeg,Int.reduceLE,Int.reduceLT,Int.reduceEq,Int.reduceBEq,Int.reduceBNe,Nat.reduceBEq,Nat.reduceBNe,EF,FC,G5,IA,Jx,Js,Iv,HL,IB,IH,II,IF,IG,Gz,D7,Iw,Jv,Jw,IE,ID,G4,Gy,DT,FP,Gg,I8,Ju,Iy,IC,Jy,GB,Fg,Ix,CB,Ic,apart,FB,Fy,FA,GD,HQ,F2,AV.wk,AV.wk2,AV.wk1,AV.cells,AV.solid,AV.ro,AV.ro1,←List.map_take,←List.map_drop,reduceCtorEq,Option.isNone_some,Option.isSome_none,Ls,Lr,Lh,KZ,KV,KU,KS,KR,KQ,KP,Lq,Lp,Lo,Ln,Lm,Ll,Lk,Lj,Li,Lg,Lf,Ld,Lc,Lb,La,KY,KX,KW,hz3]);try rfl) ?_ (hk':=fun _ h=>nomatch h)
  repeat (first|refine k4 ?_ (hk:=fun _ h=>nomatch h)|refine GU ?_|(refine BJ ?_;refine runf4 @hz3 ?_)|(refine a4 ?_;refine runf4 @hz3 ?_));try refine runf4 @hz3 ?_
  refine Zgy (fun e S=>e 7=.bo true∧e 10=.ptr 2 0∧e 11=.st Aj∧e 12=.ptr 3 0∧e 13=.sl (.own 4) (acc.map Br) ∧ ∃(iz:List It.Item) (U:Ae),e 8=.sl (.own 0) (iz.map Ao)∧iz=its++(Ml P V).map Cj∧iz.length≤100∧S=.buf iz.length 61 49::.cells [.it .i64 rL.secret,.it .i64 rL.pub]::.cells [AB AG,.sl .ro (L0.map Ao)]::.cells (Kj ⟨Aj,A,[⟨0,Cc.pub,0⟩],pv,0,false⟩)::.buf acc.length 43 9::U) (fun Kt hKt=>?_) ?_
  ·by_cases hP0:P.length=0
   ·have hba:Ml P V=[]:=by rw[hV0 hP0];rfl
    have ha0:¬(acc.length:Int)>0:=by omega
    refine DR ?_
    by_cases hv0:vs.length=0
    ·have q:¬(0:Int)<(vs.length:Int):=by omega
     refine runf4 (A3 @s2 @s13 @q) ?_
     exact hKt _ _ ⟨Ab,Ab,Ab,Ab,Ab,its,_,Ab,by rw[hba,List.map_nil,List.append_nil],by omega,rfl⟩
    ·have q:(0:Int)<(vs.length:Int):=by omega
     refine runf4 (A4 @s2 @s13 @q @ha0) ?_
     exact hKt _ _ ⟨Ab,Ab,Ab,Ab,Ab,its,_,Ab,by rw[hba,List.map_nil,List.append_nil],by omega,rfl⟩
   have hVe:=hV1 (by omega)
   have hVl:V.length=vs.length:=by rw[hVe];unfold MC;rw[List.length_map]
   have ha1:(acc.length:Int)>0:=by omega
   have hgV:∀k (h:k<vs.length),V[k]'(by rw[hVl];exact h)=((AM vs[k].1 4).toNat,(AM vs[k].2 (P.length:Int)).toNat):=fun k h=>by
    subst hVe;unfold MC;rw[List.getElem_map]
   have hcg:∀o,o<P.length→acc[o]? = some (FV P o)∧It.right (Ax (FV P o))=true∧(It.digest (Ax (FV P o))).length=32:=fun o h=>by
    have hp:=hPo _ (List.getElem_mem h);rw[Zx h,hacc,Tt P 0 o h,Nat.zero_add];exact⟨rfl,NH (by omega) (by omega) hp.2,Zw (by omega) (by omega) hp.2⟩
   have hpl:acc.length=P.length:=by omega
   refine CG (fun x e S=>e 2=.sl .ro (vs.map G8)∧e 7=.bo true∧e 10=.ptr 2 0∧e 11=.st Aj∧e 12=.ptr 3 0∧e 13=.sl (.own 4) (acc.map Br)∧e 17=.wr 5 3 none ∧ ∃(k:Nat) (L:List (Nat×Nat)) (c0 c1 c2:Int) (iz:List It.Item) (U:Ae),e 18=.it .i64 (k:Int)∧e 8=.sl (.own 0) (iz.map Ao)∧S=.buf iz.length 61 49::.cells [.it .i64 rL.secret,.it .i64 rL.pub]::.cells [AB AG,.sl .ro (L0.map Ao)]::.cells (Kj ⟨Aj,A,[⟨0,Cc.pub,0⟩],pv,0,false⟩)::.buf acc.length 43 9::.row [.it .i64 c0,.it .i64 c1,.it .i64 c2] 3 1::U∧(V.take k).foldl JG ([],[-1,-1,-1])=(L,[c0,c1,c2])∧iz=its++(L.map (Ks (Iq P))).map Cj∧iz.length≤9+k∧k≤vs.length∧x=vs.length-k) vs.length _ _
    (Aq.sub 0 [0,1,2,3,4,T.length+5] ((((((((((HM.nil _ _).cons 2 (.sl .ro (vs.map G8)) (.sl .ro (vs.map G8)) rfl rfl Ab).cons 7 (.bo true) (.bo true) rfl rfl Ab).cons 10 (.ptr 2 0) (.ptr 2 0) rfl rfl Ab).cons 11 (.st Aj) (.st Aj) rfl rfl Ab).cons 12 (.ptr 3 0) (.ptr 3 0) rfl rfl Ab).cons 13 (.sl (.own 4) (acc.map Br)) (.sl (.own 4) (acc.map Br)) rfl rfl Ab).cons 8 (.sl (.own 0) (its.map Ao)) (.sl (.own 0) (its.map Ao)) rfl rfl Ab).cons 17 (.wr 5 3 none) (.wr (T.length+5) 3 none) rfl rfl Ab).cons 18 (.it .i64 0) (.it .i64 0) rfl rfl Ab) (Zhu its.length acc.length rL.secret rL.pub (-1) (-1) (-1) (L0.map Ao) Aj pv A Cc.pub T) rfl)
    ⟨rfl,rfl,rfl,rfl,rfl,rfl,rfl,0,[],-1,-1,-1,its,[],rfl,rfl,rfl,by rw[List.take_zero];rfl,by rw[List.map_nil,List.map_nil,List.append_nil],by omega,Nat.zero_le _,rfl⟩ ?_
   clear hT1 hT2 s1 s2 s7 s9 s10 s11 s12 s13 s14 s8;rintro x e S ⟨t2,t7,t10,t11,t12,t13,t17,k,L,c0,c1,c2,iz,U,t18,t8,rfl,hfo,hiz,hil2,hk,rfl⟩
   have hU1:∀y:SObj,(U++[y])[U.length]? = some y:=fun y=>by simp
   have hU2:∀y z:SObj,(U++[y]).set U.length z=U++[z]:=fun y z=>by simp
   have hsz:=GV iz;by_cases hlt:k<vs.length
   ·have hg:vs[k]? = some vs[k]:=List.getElem?_eq_getElem hlt
    have hvk:=hvr vs[k] (List.getElem_mem hlt);have hVk:=hgV k hlt;have hv4:=hV _ (List.getElem_mem (show k<V.length by omega))
    have hfs:(V.take (k+1)).foldl JG ([],[-1,-1,-1])=JG (L,[c0,c1,c2]) V[k]:=by
     rw[List.take_succ_eq_append_getElem (by omega),List.foldl_append,hfo]
     rfl
    have p1:=Gd vs[k].1 4 hvk.1 (by decide)
    have p2:=Gd vs[k].2 (acc.length:Int) hvk.2 (by omega)
    have q1:=FN vs[k].1 (m:=4) (by decide)
    have q2:=FN vs[k].2 (m:=(acc.length:Int)) (by omega)
    rw[hpl]at q2;have e1:AM vs[k].1 4=(V[k].1:Int):=by
     rw[hVk];show _=((AM _ _).toNat:Int)
     omega
    have e2:AM vs[k].2 (acc.length:Int)=(V[k].2:Int):=by
     rw[hVk,hpl];show _=((AM _ _).toNat:Int)
     omega
    rw[e1]at p1;rw[e2]at p2;clear hVk e1 e2 q1 q2 hgV;generalize V[k]=v at *;obtain⟨f,o⟩:=v;simp only at p1 p2 hv4 hfs
    obtain⟨hco,hcr,hcd⟩:=hcg o hv4.2;have kofc:=Hg (FV P o);have kdg:=Gs (Ax (FV P o)) (EA hcr);have ktk:=MD f hv4.1;have ksg:=Zgx hv4.1 hcd;have hbal:Ks (Iq P) (f,o)=It.signBallot (BO f) ⟨(f:Int),Aj,0,It.digest (Ax (FV P o)),40,A0⟩:=rfl;have kob:=Wv (It.signBallot (BO f) ⟨(f:Int),Aj,0,It.digest (Ax (FV P o)),40,A0⟩);have hiz':iz++[Cj (It.signBallot (BO f) ⟨(f:Int),Aj,0,It.digest (Ax (FV P o)),40,A0⟩)]=its++((L++[(f,o)]).map (Ks (Iq P))).map Cj:=by
     rw[hiz,List.map_append,List.map_append,List.append_assoc];rfl
    clear hbal;generalize It.digest (Ax (FV P o))=d at *;generalize FV P o=cl at *;generalize It.signBallot (BO f) ⟨(f:Int),Aj,0,d,40,A0⟩=bb at *;generalize BO f=tk at *;generalize vs[k]=vv at *;obtain⟨v1,v2⟩:=vv;simp only at p1 p2
    have hlt':(k:Int)<(vs.length:Int):=by omega
    have h0k:(0:Int)≤(k:Int):=by omega
    have h0o:(0:Int)≤(o:Int):=by omega
    have hol:(o:Int)<(acc.length:Int):=by omega
    have w5:=Cg (k:=k) (by omega)
    have hsa:=PN acc;refine runf4 (A7 @t2 @t13 @t18 @hlt' @ha1 @hg @hvz) ?_
    rcases(by omega:(f=0∧(¬c0≥0∨c0≥0∧c0=(o:Int)∨c0≥0 ∧ ¬c0=(o:Int)))∨(f=1∧(¬c1≥0∨c1≥0∧c1=(o:Int)∨c1≥0 ∧ ¬c1=(o:Int)))∨(f=2∧(¬c2≥0∨c2≥0∧c2=(o:Int)∨c2≥0 ∧ ¬c2=(o:Int)))∨f=3)with⟨rfl,g0|⟨g0,g1⟩|⟨g0,g1⟩⟩|⟨rfl,g0|⟨g0,g1⟩|⟨g0,g1⟩⟩|⟨rfl,g0|⟨g0,g1⟩|⟨g0,g1⟩⟩|rfl
    all_goals first|change AC _ _ _ _ (.it .i64 0) _ at p1|change AC _ _ _ _ (.it .i64 1) _ at p1|change AC _ _ _ _ (.it .i64 2) _ at p1|change AC _ _ _ _ (.it .i64 3) _ at p1
    all_goals refine cp p1 ?_
    all_goals refine runf4 (A7 @t2 @t13 @t18 @h0k @hlt' @hg @hvz) ?_
    all_goals refine cp p2 ?_
    all_goals try (have g1':=beq_eq_false_iff_ne.2 g1;refine runf4 (A6 @t17 @t18 @g0 @g1 @g1' @w5) ?_;exact As (vs.length-(k+1)) (by omega) ⟨Ab,Ab,Ab,Ab,Ab,Ab,Ab,k+1,L,c0,c1,c2,iz,U,Ab,Ab,rfl,hfs.trans (if_pos ⟨by simp,g0,g1⟩),hiz,by omega,by omega,rfl⟩)
    all_goals first|(have g1':=beq_iff_eq.2 g1;refine runf4 (F3 @t11 @t13 @t17 @hco @h0o @hol @hsa @g0 @g1 @g1') ?_)|refine runf4 (A8 @t11 @t13 @t17 @hco @h0o @hol @hsa @g0) ?_|refine runf4 (A7 @t11 @t13 @t17 @hco @h0o @hol @hsa) ?_
    all_goals refine cp kofc ?_
    all_goals refine run4 ?_
    all_goals refine cp kdg ?_
    all_goals refine runf4 (A3 @t11 @hU1 @hU2) ?_
    all_goals refine cp ktk ?_
    all_goals refine runf4 (an @hU1 @hU2) ?_
    all_goals refine cp ksg ?_
    all_goals refine run4 ?_
    all_goals refine cp kob ?_
    all_goals refine runf4 (A4 @t8 @t18 @hsz @w5) ?_
    all_goals exact As (vs.length-(k+1)) (by omega) ⟨Ab,Ab,Ab,Ab,Ab,Ab,Ab,k+1,_,_,_,_,iz++[Cj bb],_,Ab,by rw[List.map_append];exact Ab,by rw[List.length_append];rfl,hfs.trans (if_neg fun⟨h1,h2,h3⟩=>by first|exact h3 g1|exact g0 h2|exact absurd h1 (by simp)),hiz',by rw[List.length_append,List.length_singleton];omega,by omega,rfl⟩
   ·obtain rfl:k=vs.length:=by omega
    have hlt':¬(vs.length:Int)<(vs.length:Int):=by omega
    rw[List.take_of_length_le (by omega)]at hfo
    have hba:Ml P V=L.map (Ks (Iq P)):=by
     unfold Ml Qm;rw[hfo]
    refine runf4 (A4 @t2 @t13 @t18 @hlt') ?_
    exact hKt _ _ ⟨Ab,Ab,Ab,Ab,Ab,iz,_,Ab,by rw[hba];exact hiz,by omega,rfl⟩
  ·rintro e S ⟨t7,t10,t11,t12,t13,iz,U,t8,hiz,hilen,rfl⟩
   obtain⟨B,hH⟩:=Zht hm (P:=P) (by omega) hPo hV
   have hiz2:iz=(AY m).map An++((Cn 0 P).map Ax++(Ml P V).map Cj):=by rw[hiz,hits,←hI0,hacc,List.append_assoc]
   have hcr:∀c∈acc,It.right (Ax c)=true:=fun c hx=>by
    rw[hacc]at hx;obtain⟨j,b,h,h1,h2,h3,rfl⟩:=Mh P 0 c hx;have :=hPo _ h3;exact NH (by omega) (by omega) this.2
   have hri:∀x∈iz,Iz x:=fun x hx=>by
    rw[hiz2]at hx;rcases List.mem_append.1 hx with hx|hx
    ·obtain⟨a,ha,rfl⟩:=List.mem_map.1 hx
     exact EA (act_signed [] (NO m a ha)).1
    ·rcases List.mem_append.1 hx with hx|hx
     ·obtain⟨c,hc,rfl⟩:=List.mem_map.1 hx
      exact EA (hcr c (by rw[hacc];exact hc))
     ·obtain⟨b,hb,rfl⟩:=List.mem_map.1 hx
      obtain⟨v,hv,rfl⟩:=List.mem_map.1 hb;have hlt:=(Uu V hV).lt v hv;have hp:=hPo _ (List.getElem_mem hlt.2);exact EA (ZgJ hlt.1 (by unfold Iq;rw[Zx hlt.2];exact Zw (by omega) (by omega) hp.2))
   rw[←hiz2,←hacc]at hH;have kset2:=QT iz (by omega) hri
   generalize Cb AG iz=l at *;have hcnt:=hH.count;have kch:=hH.chn AG rfl;have kwo:=hH.won AG rfl 0;rw[hH.won0]at kwo;have kvo:=fun d=>hH.voters AG d
   have kqu:=Ri;have hsa:=PN acc;have hal3:acc.length≤3:=by omega
   refine runf4 (an @t8 @t10) ?_
   refine cp kset2 ?_;refine runf4 @t10 ?_
   refine Bn (fun x e S=>e 7=.bo true∧e 10=.ptr 2 0∧e 11=.st Aj∧e 12=.ptr 3 0∧e 13=.sl (.own 4) (acc.map Br)∧S=.buf iz.length 61 49::.cells [.it .i64 rL.secret,.it .i64 rL.pub]::.cells [AB AG,.sl .ro (l.map Ao)]::.cells (Kj ⟨Aj,A,[⟨0,Cc.pub,0⟩],pv,0,false⟩)::.buf acc.length 43 9::U ∧ ∃j:Nat,e 22=.it .i64 (((acc.take j).countP (IM l):Nat):Int)∧e 23=.it .i64 (j:Int)∧j≤acc.length∧x=acc.length-j) acc.length ⟨Ab,Ab,Ab,Ab,Ab,rfl,0,Ab,Ab,Nat.zero_le _,rfl⟩ ?_
   rintro x e S ⟨u7,u10,u11,u12,u13,rfl,j,u22,u23,hj,rfl⟩
   by_cases hlt:j<acc.length
   ·have hg:acc[j]? = some acc[j]:=List.getElem?_eq_getElem hlt
    have hst:(acc.take (j+1)).countP (IM l)=(acc.take j).countP (IM l)+if IM l acc[j]=true then 1 else 0:=by
     rw[List.take_succ_eq_append_getElem hlt,List.countP_append,List.countP_singleton]
    have hwb:IM l acc[j]=decide (3≤(C1 l (It.digest (Ax acc[j])) Aj 0).length):=rfl;have hle:(acc.take j).countP (IM l)≤3:=Nat.le_trans List.countP_le_length (by rw[List.length_take];omega)
    have kofc:=Hg acc[j];have kdg:=Gs (Ax acc[j]) (EA (hcr _ (List.getElem_mem hlt)));have kv:=kvo (It.digest (Ax acc[j]));generalize (acc.take j).countP (IM l)=cnt at *;have hlt':(j:Int)<(acc.length:Int):=by omega
    have h0j:(0:Int)≤(j:Int):=by omega
    have w5:=Cg (k:=j) (by omega)
    have w6:=Cg (k:=cnt) (by omega)
    generalize C1 l (It.digest (Ax acc[j])) Aj 0=vl at *;generalize It.digest (Ax acc[j])=d at *;rw[hwb]at hst;generalize acc[j]=cl at *;by_cases hv:3≤vl.length
    ·have hv':(vl.length:Int)≥3:=by omega
     rw[decide_eq_true hv,if_pos rfl]at hst;refine runf4 (A7 @u10 @u13 @u23 @hlt' @hg @h0j @hsa) ?_
     refine cp kofc ?_;refine run4 ?_
     refine cp kdg ?_;refine runf4 @u11 ?_
     refine cp kv ?_;refine run4 ?_
     refine cp kqu ?_;refine runf4 (A5 @hv' @u22 @u23 @w5 @w6) ?_
     exact As (acc.length-(j+1)) (by omega) ⟨Ab,Ab,Ab,Ab,Ab,rfl,j+1,by rw[hst];exact Ab,Ab,by omega,rfl⟩
    ·have hv':¬(vl.length:Int)≥3:=by omega
     rw[decide_eq_false hv,if_neg (by decide)]at hst
     simp only[Nat.add_zero]at hst;refine runf4 (A7 @u10 @u13 @u23 @hlt' @hg @h0j @hsa) ?_
     refine cp kofc ?_;refine run4 ?_
     refine cp kdg ?_;refine runf4 @u11 ?_
     refine cp kv ?_;refine run4 ?_
     refine cp kqu ?_;refine runf4 (A4 @hv' @u22 @u23 @w5) ?_
     exact As (acc.length-(j+1)) (by omega) ⟨Ab,Ab,Ab,Ab,Ab,rfl,j+1,by rw[hst];exact Ab,Ab,by omega,rfl⟩
   ·obtain rfl:j=acc.length:=by omega
    have hlt':¬(acc.length:Int)<(acc.length:Int):=by omega
    rw[List.take_length,hcnt]at u22;have hU1:∀y:SObj,(U++[y])[U.length]? = some y:=fun y=>by simp
    have hU2:∀y z:SObj,(U++[y]).set U.length z=U++[z]:=fun y z=>by simp
    have hU3:∀a b:SObj,(U++[a]++[b])[U.length]? = some a:=fun a b=>by simp
    have hU4:∀a b:SObj,(U++[a]++[b])[U.length+1]? = some b:=fun a b=>by simp
    have hU5:∀a b c:SObj,(U++[a]++[b]).set (U.length+1) c=U++[a]++[c]:=fun a b c=>by simp
    have hU6:∀a b c:SObj,(U++[a]++[b]++[c])[U.length]? = some a:=fun a b c=>by simp
    have hU7:∀a b c:SObj,(U++[a]++[b]++[c])[U.length+1]? = some b:=fun a b c=>by simp
    have hU8:∀a b c:SObj,(U++[a]++[b]++[c])[U.length+1+1]? = some c:=fun a b c=>by
     have h:∀(L:Ae) (y:SObj),(L++[y])[L.length]? = some y:=fun L y=>by simp
     have h2:=h (U++[a]++[b]) c;rwa[show(U++[a]++[b]).length=U.length+1+1 by simp]at h2
    have hU9:∀a b c d:SObj,(U++[a]++[b]++[c]).set (U.length+1+1) d=U++[a]++[b]++[d]:=fun a b c d=>by
     have h:∀(L:Ae) (y z:SObj),(L++[y]).set L.length z=L++[z]:=fun L y z=>by simp
     have h2:=h (U++[a]++[b]) c d;rwa[show(U++[a]++[b]).length=U.length+1+1 by simp]at h2
    cases hw:GF l acc with
    |none=>
     rw[hw]at kwo u22;rw[HSet.res0 hw,hc]at kch;change e 22=.it .i64 0 at u22;have hAA:((A.length:Int)==(A.length:Int))=true:=beq_self_eq_true _;refine runf4 (A5 @u10 @u11 @u13 @u23 @hlt') ?_
     refine cp kch ?_;refine runf4 (A4 @u10 @u11 @hU1 @hU2) ?_
     refine cp kwo ?_;refine runf4 (A9 @u7 @u12 @u22 @hU1 @hU2 @hU3 @hU4 @hU5 @hAA) ?_
     exact Ad
    |some c=>
     obtain⟨b,hb,hbase,hres⟩:=hH.res1 hw;rw[hw]at kwo u22;rw[hres]at kch;change e 22=.it .i64 1 at u22;have hA2:=NX (m:=b) (by omega)
     have hcm:c∈acc:=List.mem_of_find?_eq_some hw
     have kofc:=Hg c;have kdg:=Gs (Ax c) (EA (hcr c hcm));generalize LH.take (2+b)=A2 at *;generalize It.digest (Ax c)=d at *;have f1:((A2.length:Int)==c.base)=true:=by rw[hbase,hA2];exact beq_self_eq_true _
     have f2:(((2+b:Nat):Int)==c.base)=true:=by rw[hbase];exact beq_self_eq_true _
     have f3:(c.pub==c.pub)=true:=beq_self_eq_true _;have f4:(c.home==c.home)=true:=beq_self_eq_true _;have f5:(d==d)=true:=beq_self_eq_true _;refine runf4 (A5 @u10 @u11 @u13 @u23 @hlt') ?_
     refine cp kch ?_;refine runf4 (A4 @u10 @u11 @hU1 @hU2) ?_
     refine cp kwo ?_;refine runf4 (an @u7 (an @u12 (an @u22 (an @hU1 (an @hU2 (AA @hU3 @hU4 @hU5 @hU6 @hU7 @hU8 @hU9 @f1 @f2 @f3 @f4)))))) ?_
     refine cp kofc ?_;refine run4 ?_
     refine cp kdg ?_;refine runf4 @f5 ?_
     exact Ad
end Pe
end
section
namespace Pe
open _root_.Go.Proofs.Tryz
open Go Go.RowKit Co Sg Ac It Sl Tp
set_option maxRecDepth 100000
set_option maxHeartbeats 4000000
theorem ZdL{n us}(h:Dd prog 140737488351232 (n+2) 64 us):∃x:Int×Int,us=(G8 x).cells∧Db x.1∧Db x.2:=by
 have h:=ZdM underlying64 h;obtain⟨a0,b0,rfl,h0,h⟩:=h;obtain⟨a1,b1,rfl,h1,rfl⟩:=h;obtain⟨i0,rfl,w0⟩:=QP underlying3 h0;obtain⟨i1,rfl,w1⟩:=QP underlying3 h1;exact⟨⟨i0,i1⟩,rfl,w0,w1⟩
theorem shp_votes{n us}(h:Dd prog 140737488351232 (n+3) 23 us):∃l:List (Int×Int),us=[.sl .ro (l.map G8)]∧l.length≤140737488351232 ∧ ∀x∈l,Db x.1∧Db x.2:=
 Va G8 (fun x=>Db x.1∧Db x.2) underlying23 h fun x hx=>by
  obtain⟨a,rfl,ha⟩:=ZdL hx;exact⟨a,by rw[show HK prog 64=true from by kernel_rfl];rfl,ha⟩
theorem topHomeY_c(n:Int)(bs:List Int)(vs:List (Int×Int))(hn:Db n)(hb:InL bs)(hv:vs.length≤140737488351232 ∧ ∀x∈vs,Db x.1∧Db x.2):
  AC prog 3 [.it .i64 n,AB bs,.sl .ro (vs.map G8)] [] (.bo true) []:=
 ZgK n bs vs hn hb.len hb.rng hv.1 hv.2
end Pe
end
section
section
open Go Go.RowKit Go.WideShapes Go.ChangeShapes
section
variable {H:Type} {enc:TypeId×Value→H} {P:Program}
theorem Zfu{f:Func}{s:ChangeSpec}{apart fresh handsOn again:Bool}{W W':World}{args:Array Value}{v:Value}{ds gs:List (DataW H)}{before pa pv:List MemPlace}
  (hW:DataW.Whole enc P f.params.toList s.vars apart W args.toList ds gs before)
  (hres:∀(b:Nat) (sp:Nat→Bool) (hd:Bool),DataW.TrodAll enc P W' b sp hd f.resultTypes.toList (v.resultList f.resultTypes.size) (s.fn H (ds++gs)).results [])
  (hargs:∀sp:Nat→Bool,(∀p∈before,sp p.block=true)→DataW.TrodAll enc P W' 0 sp true f.params.toList args.toList (s.fn H (ds++gs)).args pa)
  (hvars:∀sp:Nat→Bool,(∀p∈before,sp p.block=true)→DataW.TrodVars enc P W' sp s.vars (s.fn H (ds++gs)).vars pv)
  (hps:before=pa++pv)(hb:Below W.heap.size W W')
  (hok:∀(j:Nat) (t:TypeId) (r:Value),f.resultTypes[j]? = some t→(v.resultList f.resultTypes.size)[j]? = some r→Value.okWide P W' .any 0 t r):
  s.post enc P f apart fresh handsOn again W args v W':=by
 have hlt:∀p∈before,p.block<W.heap.size:=fun p hp=>hW.lt p hp
 have hold:∀p∈before,(fun b=>decide (b<W.heap.size)) p.block=true:=fun p hp=>by simpa using hlt p hp
 refine⟨ds,gs,before,[],pa,pv,hW,hres _ _ _,hargs _ hold,hvars _ hold,World.keptBut_mono (fun p hp=>⟨hp,?_⟩) (hb.frame (· ∈ before)),fun _=>?_⟩
 ·rw[hps,List.mem_append]at hp
  exact Or.inr hp
 ·obtain⟨_,_,_,_,_,hz,hn⟩:=hW
  refine⟨hok,_,_,([]++pa)++pv,⟨[]++pa,pv,trodAll_append (hargs _ (fun _ _=>rfl)) (hres _ _ _),hvars _ (fun _ _=>rfl),rfl,?_,?_⟩,?_⟩
  ·intro b off hp
   have hin:MemPlace.cell b off∈before:=by rw[hps];simpa using hp
   rw[hb.frozen (hlt _ hin)];exact hz b off hin
  ·intro ha
   have :=hn ha;rw[hps]at this;simpa using this
  ·intro p hp _
   rw[hps];simpa using hp
end
end
end
section
section
open Go Go.RowKit Sm
theorem own:ownKnob Tryz.prog.godebug=none:=by kernel_rfl
theorem gK:Tryz.prog.globalNamed "agora/sum.constants" = some 1:=by kernel_rfl
theorem gI:Tryz.prog.globalNamed "agora/sum.initial" = some 0:=by kernel_rfl
theorem ZhJ:(Tryz.prog.globals[1]?).map (·.type)=some 235:=by kernel_rfl
theorem ZhK:(Tryz.prog.globals[0]?).map (·.type)=some 174:=by kernel_rfl
theorem Zjx:Tryz.prog.cellsOf 235=64:=by kernel_rfl
theorem Zjy:Tryz.prog.cellsOf 174=8:=by kernel_rfl
theorem ZD:Tryz.prog.cellsOf 173=1:=by kernel_rfl
def Qc:List Int:=[1116352408,1899447441,3049323471,3921009573,961987163,1508970993,2453635748,2870763221,3624381080,310598401,607225278,1426881987,1925078388,2162078206,2614888103,3248222580,3835390401,4022224774,264347078,604807628,770255983,1249150122,1555081692,1996064986,2554220882,2821834349,2952996808,3210313671,3336571891,3584528711,113926993,338241895,666307205,773529912,1294757372,1396182291,1695183700,1986661051,2177026350,2456956037,2730485921,2820302411,3259730800,3345764771,3516065817,3600352804,4094571909,275423344,430227734,506948616,659060556,883997877,958139571,1322822218,1537002063,1747873779,1955562222,2024104815,2227730452,2361852424,2428436474,2756734187,3204031479,3329325298]
def Qd:List Int:=[1779033703,3144134277,1013904242,2773480762,1359893119,2600822924,528734635,1541459225]
theorem ZbV:Qc=Ff.map (fun x=>(x.toNat:Int)):=by decide +kernel
theorem ZbW:Qd=B3.list.map (fun x=>(x.toNat:Int)):=by decide +kernel
theorem Ur(l:List (BitVec 32))(i:Nat)(hi:i<l.length):Value.int .u32 ((l.map (fun x=>(x.toNat:Int))).getD i 0)=Ag (l.getD i 0):=by
 simp only[List.getD_eq_getElem?_getD,List.getElem?_map,List.getElem?_eq_getElem hi]
 rfl
def ZgO:List (String×DataW Unit):=[("agora/sum.constants",Rows.laid_agora_sum_constants),("agora/sum.initial",Rows.laid_agora_sum_initial)]
theorem ZcM{W:World}(h:laidMetH Tryz.prog ZgO W):DX W:=by
 have h1:laidMet Tryz.prog (("agora/sum.constants",Lib.tabData .u32 Qc)::[("agora/sum.initial",Lib.tabData .u32 Qd)]) W:=h;have k1:=Lib.tabIs_of_head gK ZhJ Tryz.underlying235 Tryz.underlying173 ZD Zjx h1;have k2:=Lib.tabIs_of_head gI ZhK Tryz.underlying174 Tryz.underlying173 ZD Zjy (laidMet.tail h1);refine⟨fun i hi=>?_,fun i hi=>?_⟩
 ·rw[k1.cell gK i hi,ZbV,Ur Ff i hi]
 ·rw[k2.cell gI i hi,ZbW,Ur B3.list i hi]
def Us(cs:Array Value):Obj→Obj
 |.cells _ t frozen=>.cells cs t frozen
 |o=>o
noncomputable def Sa(os:Os):World:=
 { World.holding Tryz.prog os ⟨#[],#[],[]⟩with heap:=((World.holding Tryz.prog os ⟨#[],#[],[]⟩).heap.modify 1 (Us (Qc.map (Value.int .u32)).toArray)).modify 0 (Us (Qd.map (Value.int .u32)).toArray) }
theorem ZcN{W:World}(h:DX W):∀b i v,(Pe.tabs).T b i=some v→W.cell? ⟨b,i,none⟩=some v:=by
 intro b i v hv;have hv':(if b=1∧i<64 then some (Ag (Ff.getD i 0))else if b=0∧i<8 then some (Ag (B3.list.getD i 0))else none)=some v:=hv
 split at hv'
 ·rename_i hc
  obtain⟨rfl,hi⟩:=hc;rw[h.1 i hi];exact hv'
 ·split at hv'
  ·rename_i hc
   obtain⟨rfl,hi⟩:=hc;rw[h.2 i hi];exact hv'
  ·cases hv'
theorem Xc:laidOutB Tryz.prog=true:=by kernel_rfl
end
end
end Go.Proofs.YtchpmmjmimaigaaGreatDoor
