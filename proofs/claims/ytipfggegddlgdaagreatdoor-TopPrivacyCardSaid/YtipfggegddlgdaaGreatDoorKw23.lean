import Derived.Test.YtipfggegddlgdaaGreatDoorKw22
import Derived.Sort.KeysCollected
import Derived.Sort.Walk0
set_option linter.unusedSectionVars false
set_option linter.unusedVariables false
set_option linter.unusedSimpArgs false
namespace Go.Proofs.YtipfggegddlgdaaGreatDoor
section
namespace Tp
open Tryz
open Go Co Sg Ac It
set_option maxRecDepth 100000
theorem Ri:∀x:By,Op.bytesLess x x=false
 |[]=>rfl
 |a::x=>by
  rw[Op.bytesLess,Ri x]
  have:¬a<a:=by rw[UInt8.lt_iff_toNat_lt];omega
  simp[this]
theorem OK:∀{x y z:By},Op.bytesLess x y=true→Op.bytesLess y z=true→Op.bytesLess x z=true
 |_,[],_,h,_=>by simp[Op.bytesLess]at h
 |_,_::_,[],_,h=>by simp[Op.bytesLess]at h
 |[],_::_,_::_,_,_=>rfl
 |a::x,b::y,c::z,h1,h2=>by
  have ih:=@OK x y z;simp only[Op.bytesLess,Bool.or_eq_true,Bool.and_eq_true,decide_eq_true_eq,beq_iff_eq]at h1 h2 ⊢;rw[UInt8.lt_iff_toNat_lt]at *;rcases h1 with h1|⟨h1,h1'⟩<;>rcases h2 with h2|⟨h2,h2'⟩
  ·exact .inl (by omega)
  ·subst h2;exact .inl h1
  ·subst h1;exact .inl h2
  ·subst h1 h2;exact .inr ⟨rfl,ih h1' h2'⟩
theorem OJ:∀(x y:By),Op.bytesLess x y=false→x=y∨Op.bytesLess y x=true
 |[],[],_=>.inl rfl
 |_::_,[],_=>.inr rfl
 |[],_::_,h=>by simp[Op.bytesLess]at h
 | a::x,b::y,h=>by
  have ih:=OJ x y;simp only[Op.bytesLess,Bool.or_eq_false_iff,Bool.and_eq_false_iff,decide_eq_false_iff_not,beq_eq_false_iff_ne]at h;simp only[Op.bytesLess,Bool.or_eq_true,Bool.and_eq_true,decide_eq_true_eq,beq_iff_eq];by_cases e:a=b
  ·subst e
   rcases h.2 with h2|h2
   ·exact absurd rfl h2
   ·rcases ih h2 with h3|h3
    ·subst h3;exact .inl rfl
    ·exact .inr (.inr ⟨rfl,h3⟩)
  ·refine .inr (.inl ?_)
   have h1:=h.1;rw[UInt8.lt_iff_toNat_lt]at *
   have:a.toNat≠b.toNat:=fun h=>e (UInt8.toNat_inj.1 h)
   omega
abbrev EX(l:List By):Prop:=l.Pairwise fun a b=>Op.bytesLess a b=true
theorem Zh0{l:List By}(h:EX l):l.Nodup:=List.Pairwise.imp (fun {a b} hab e=>by subst e;rw[Ri]at hab;cases hab) h
theorem Sy{α:Type _}{p:α→Bool}:∀(l:List α),∀x∈l.takeWhile p,p x=true
 |[],x,h=>by simp at h
 | a::l,x,h=>by
  rw[List.takeWhile_cons]at h;split at h
  ·rename_i ha
   rcases List.mem_cons.1 h with rfl|h
   ·exact ha
   ·exact Sy l x h
  ·simp at h
theorem WU{x:By}:∀{l:List By},EX l → ∀y∈l.dropWhile (fun y=>Op.bytesLess y x),Op.bytesLess y x=false
 |[],_,y,h=>by simp at h
 | a::l,hs,y,h=>by
  rw[List.dropWhile_cons]at h;have hs':=List.pairwise_cons.1 hs;split at h
  ·exact WU hs'.2 y h
  ·rename_i ha
   have ha:Op.bytesLess a x=false:=by simpa using ha
   rcases List.mem_cons.1 h with rfl|h
   ·exact ha
   ·cases e:Op.bytesLess y x with
    |false=>rfl
    |true=>have :=OK (hs'.1 y h) e;rw[ha]at this;cases this
theorem M6{l:List By}{x:By}(h:EX l):EX (CU l x):=by
 unfold CU;split
 ·exact h
 ·rename_i hx
  have hx:x∉l:=by simpa using hx
  have hsp:=List.takeWhile_append_dropWhile (p:=fun y=>Op.bytesLess y x) (l:=l)
  have h':=h;rw[←hsp]at h';obtain⟨h1,h2,h3⟩:=List.pairwise_append.1 h';refine List.pairwise_append.2 ⟨h1,List.pairwise_cons.2 ⟨fun y hy=>?_,h2⟩,fun a ha b hb=>?_⟩
  ·rcases OJ y x (WU h y hy)with e|e
   ·exfalso
    subst e;exact hx (by rw[←hsp];exact List.mem_append.2 (.inr hy))
   ·exact e
  ·rcases List.mem_cons.1 hb with rfl|hb
   ·exact Sy l a ha
   ·exact h3 a ha b hb
theorem JR{l:List By}{x:By}(h:EX l):EX (B3 l x):=List.Pairwise.filter _ h
structure TAsc(t:Ties):Prop where
 follows:EX t.follows
 accepts:EX t.accepts
 blocks:EX t.blocks
 mutes:EX t.mutes
theorem Zib{t:Ties}(h:TAsc t)(acts:List Ac.Act)(i:Nat)(l:List By):TAsc (EA t acts i l):=by
 unfold EA;simp only
 repeat' split
 all_goals first
  |exact h
  |exact⟨M6 h.follows,h.accepts,h.blocks,h.mutes⟩
  |exact⟨h.follows,M6 h.accepts,h.blocks,h.mutes⟩
  |exact⟨h.follows,JR h.accepts,h.blocks,h.mutes⟩
  |exact⟨JR h.follows,JR h.accepts,M6 h.blocks,h.mutes⟩
  |exact⟨h.follows,h.accepts,h.blocks,M6 h.mutes⟩
  |exact⟨JR h.follows,h.accepts,h.blocks,h.mutes⟩
  |exact⟨h.follows,h.accepts,JR h.blocks,h.mutes⟩
  |exact⟨h.follows,h.accepts,h.blocks,JR h.mutes⟩
theorem Pf(acts:List Ac.Act):∀n,TAsc (Dv acts n)
 |0=>⟨.nil,.nil,.nil,.nil⟩
 |n+1=>Zib (Pf acts n) _ _ _
theorem Og{acts:List Ac.Act}{n i:Nat}(h:i<n):(acts.take n).getD i Al=acts.getD i Al:=by
 rw[List.getD_eq_getElem?_getD,List.getD_eq_getElem?_getD,List.getElem?_take,if_pos h]
theorem Vr:∀(l:List By) (d:By) (n:Nat),match Cy l d with
  |some j=>if j<n then Cy (l.take n) d=some j else Cy (l.take n) d=none
  |none=>Cy (l.take n) d=none
 |[],d,n=>by simp[Cy]
 |x::l,d,0=>by
  rw[List.take_zero];cases Cy (x::l) d<;>simp[Cy]
 | x::l,d,n+1=>by
  have ih:=Vr l d n;rw[List.take_succ_cons];unfold Cy;by_cases e:x=d
  ·rw[if_pos e,if_pos e];simp
  ·rw[if_neg e,if_neg e]
   cases hj:Cy l d with
   |none=>rw[hj]at ih;simp only at ih;rw[ih];rfl
   |some j=>
    rw[hj]at ih;simp only[Option.map_some]at ih ⊢;by_cases h:j<n
    ·rw[if_pos h]at ih;rw[if_pos (by omega),ih];rfl
    ·rw[if_neg h]at ih;rw[if_neg (by omega),ih];rfl
theorem Zh9{acts:List Ac.Act}{n i:Nat}(t:Ties)(hi:i<n)(hn:n≤acts.length):EA t (acts.take n) i (EP (acts.take n))=EA t acts i (EP acts):=by
 have hg:=Og (acts:=acts) hi;unfold EA;simp only[hg];by_cases h6:(acts.getD i Al).kind=6
 ·have hge:acts.getD i Al=acts[i]:=by rw[List.getD_eq_getElem?_getD,List.getElem?_eq_getElem (by omega)];rfl
  have hmem:acts[i]∈acts.take n:=by
   rw[List.mem_take_iff_getElem];exact⟨i,by omega,rfl⟩
  have h1:(acts.take n).any (fun a=>a.kind==6)=true:=List.any_eq_true.2 ⟨_,hmem,by rw[←hge,h6];rfl⟩
  have h2:acts.any (fun a=>a.kind==6)=true:=List.any_eq_true.2 ⟨_,List.mem_of_mem_take hmem,by rw[←hge,h6];rfl⟩
  unfold EP;rw[if_pos h1,if_pos h2,List.map_take];have hk:=Vr (acts.map dg) (acts.getD i Al).object n;rw[h6];simp only[show((6:Int)=7)=False by decide,show((6:Int)=8)=False by decide,show((6:Int)=9)=False by decide,show((6:Int)=10)=False by decide,show((6:Int)=11)=False by decide,if_false,if_true]
  cases hj:Cy (acts.map dg) (acts.getD i Al).object with
  |none=>rw[hj]at hk;simp only at hk;rw[hk]
  | some j=>
   rw[hj]at hk;simp only at hk
   by_cases hjn:j<n
   ·rw[if_pos hjn]at hk
    rw[hk];simp only
    rw[Og hjn]
   ·rw[if_neg hjn]at hk
    rw[hk];simp only
    rw[if_pos (by omega)]
 ·simp only[if_neg h6]
theorem SB{acts:List Ac.Act}{n:Nat}(hn:n≤acts.length):∀i,i≤n→Dv (acts.take n) i=Dv acts i
 |0,_=>rfl
 |i+1,h=>by
  unfold Dv;rw[SB hn i (by omega),Zh9 _ (by omega) hn]
theorem VS{acts:List Ac.Act}{n:Nat}:∀i,i≤n→Bm (acts.take n) i=Bm acts i
 |0,_=>rfl
 |i+1,h=>by
  unfold Bm;rw[VS i (by omega),Og (by omega)]
theorem VT(acts:List Ac.Act):∀i,0≤(Bm acts i).2∧(0<(Bm acts i).2→(Bm acts i).1<i∧(acts.getD (Bm acts i).1 Al).kind=16∧(acts.getD (Bm acts i).1 Al).scope=1∧(acts.getD (Bm acts i).1 Al).group=[]∧(acts.getD (Bm acts i).1 Al).epoch=(Bm acts i).2-1)
 |0=>by simp[Bm]
 | i+1=>by
  obtain⟨h1,h2⟩:=VT acts i;unfold Bm;simp only
  split
  ·rename_i h
   exact⟨by show 0≤(Bm acts i).2+1;omega,fun _=>⟨Nat.lt_succ_self i,h.1,h.2.1,h.2.2.1,by rw[h.2.2.2];show _=(Bm acts i).2+1-1;omega⟩⟩
  ·exact⟨h1,fun h0=>by
    obtain⟨a1,a2⟩:=h2 h0;exact⟨by omega,a2⟩⟩
section
variable {id:By} {L:List Ac.Act} {n:Nat}
theorem UP(hn:n≤L.length):min n (L.take n).length=n:=by rw[List.length_take];omega
theorem ZaJ(hn:n≤L.length):Cm (AB id (L.take n)) n=Cm (AB id L) n:=by
 unfold Cm;rw[Cr,Cr,UP hn,Nat.min_eq_left hn,SB hn n (Nat.le_refl n)]
theorem ZdT(hn:n≤L.length):AR (AB id (L.take n)) n=AR (AB id L) n:=by
 unfold AR;rw[ZaJ hn,Jp,Jp]
theorem Zfr(hn:n≤L.length):Bb (AB id (L.take n)) n=Bb (AB id L) n:=by
 unfold Bb;rw[Cr,Cr,UP hn,Nat.min_eq_left hn,VS n (Nat.le_refl n)]
theorem VR(hn:n≤L.length)(h:(Bb (AB id L) n).2=true):(Bb (AB id L) n).1<n∧(L.getD (Bb (AB id L) n).1 Al).kind=16:=by
 unfold Bb at h ⊢;rw[Cr,Nat.min_eq_left hn]at h ⊢;have :=(VT L n).2 (of_decide_eq_true h);exact⟨this.1,this.2.1⟩
theorem WN(hn:n≤L.length):AS (AB id (L.take n)) n=AS (AB id L) n:=by
 unfold AS;rw[Zfr hn];split
 ·rename_i h
  rw[Cr,Cr,Og (VR hn h).1]
 ·rfl
theorem ZfA(hn:n≤L.length):Gr (AB id (L.take n)) n=Gr (AB id L) n:=by
 unfold Gr;rw[WN hn,ZdT hn]
end
theorem Pu{α:Type _}{p:List α→Prop}(h0:p [])(h1:∀L a,p L→p (L++[a]))(L:List α):p L:=by
 have:∀M:List α,p M.reverse:=fun M=>by
  induction M with
  |nil=>exact h0
  |cons a M ih=>rw[List.reverse_cons];exact h1 _ a ih
 rw[←List.reverse_reverse L];exact this _
theorem ZeA{id:By}{L:List Ac.Act}(h:Ee id L)(hne:L≠[]):∃k,(AB id L).keys[0]? = some k∧k.frm=0:=by
 revert h hne
 refine Pu (p:=fun L=>Ee id L→L≠[] → ∃k,(AB id L).keys[0]? = some k∧k.frm=0) ?_ ?_ L
 ·exact fun _ h=>absurd rfl h
 ·intro L a ih h _
  rw[Ii,MD];by_cases hL:L=[]
  ·subst hL
   have hk:a.kind=0:=((E6 h (j:=0) (a:=a) rfl).2.2.2).2 rfl;rw[if_pos (.inr hk),if_pos hk];exact⟨_,rfl,rfl⟩
  ·obtain⟨k,h1,h2⟩:=ih (fun j x hx=>by
    have hl:=(List.getElem?_eq_some_iff.1 hx).1
    have :=h j x (by rw[List.getElem?_append_left hl];exact hx)
    rwa[List.take_append_of_le_length (by omega)]at this) hL
   refine⟨k,?_,h2⟩
   split
   ·rw[List.getElem?_append_left (List.getElem?_eq_some_iff.1 h1).1];exact h1
   ·exact h1
theorem ZeC{id:By}{L:List Ac.Act}(h:Ee id L)(hne:L≠[]){g:Nat}(hg:g≤L.length):(CI (AB id L) g).2=true ∧ ∃j:Nat,(AB id L).keys[j]? = some (CI (AB id L) g).1:=by
 obtain⟨k,h1,h2⟩:=ZeA h hne;unfold CI;rw[if_neg (by rw[Cr];omega)]
 cases hf:(AB id L).keys.reverse.find? (fun k=>decide (k.frm≤(g:Int)))with
 |none=>
  rw[List.find?_eq_none]at hf
  have :=hf k (List.mem_reverse.2 (List.mem_of_getElem? h1));rw[h2]at this;simp at this
 |some x=>
  have :=List.mem_reverse.1 (List.mem_of_find?_eq_some hf)
  exact⟨rfl,List.mem_iff_getElem?.1 this⟩
def MR(out:List Ac.Act)(B:Nat→Prop)(p:Int):Prop:=∃i:Nat,i<4∧B i∧Aw out (AE i)≠[] ∧ ∃j,j<nk out (AE i)∧p=(AF i j).pub
def Y4:Prop:=∀(a b:Int) (i j:Nat),i<25→j<25→(AF a i).pub=(AF b j).pub→AL a 4=AL b 4
theorem NR(n:Int):∃i:Nat,i<4∧AL n 4=i:=by
 have h:=Sl.pick_in (n:=n) (m:=4) (by decide)
 change 0≤AL n 4∧AL n 4<4 at h;exact⟨(AL n 4).toNat,by omega,by omega⟩
theorem ZdI{k out:List Ac.Act}(h:Inv k out)(id:By):nk out id≤(Aw out id).length:=by
 have:∀L:List Ac.Act,(AB id L).keys.length≤L.length:=by
  refine Pu ?_ ?_
  ·exact Nat.le_refl _
  ·intro L a ih
   rw[Ii,MD];split
   ·rw[List.length_append,List.length_append];exact Nat.add_le_add_right ih 1
   ·rw[List.length_append];omega
 exact this _
theorem TN{k out:List Ac.Act}(hG:Grown k out)(hF:KH)(hD:Y4)(hl:out.length≤24)(B:Nat→Prop){id:By}{n:Nat}{a:Ac.Act}(ha:(Aw out id)[n]? = some a)
  (hk:a.kind=1∨a.kind=2∨a.kind=3∨a.kind=14)(hs:a.scope≠0):
  let c:=AB id (Aw out id)
  let g:=(Bb c n).1
  a.scope=1∧a.group=[]∧(Bb c n).2=true∧g<n∧(c.acts.getD g Al).epoch=a.epoch∧(c.acts.getD g Al).to=AR c n∧(CI c g).2=true ∧
  ((MR out B (CI c g).1.pub ∨ ∃w∈(c.acts.getD g Al).wraps,MR out B w.to) ↔ ∃i:Nat,i<4∧B i∧Aw out (AE i)≠[]∧(AE i=id∨AE i∈AR c n)):=by
 intro c g;have hnl:=(List.getElem?_eq_some_iff.1 ha).1
 have hok:=hG.inv.ok id;change Ee id (Aw out id)at hok
 have hcont:=hG.conts id n a ha;have hne:Aw out id≠[]:=fun e=>by rw[e]at hnl;simp at hnl
 have hC1:(AB id ((Aw out id).take n)).acts.length=n:=by rw[Cr,List.length_take];omega
 obtain⟨who,hid,hkeys⟩:=hG.keys id hne;rcases hcont.text hk with h|⟨h1,h2,h3,h4⟩
 ·exact absurd h hs
 rw[hC1,ZfA (by omega)]at h3
 rw[hC1,WN (by omega)]at h4
 change Gr c n=false at h3;change a.epoch=(AS c n).1 at h4;unfold Gr at h3;rw[Bool.or_eq_false_iff]at h3;have hg2:(Bb c n).2=true:=by
  cases e:(Bb c n).2 with
  |true=>rfl
  |false=>unfold AS at h3;rw[e]at h3;simp at h3
 have hep:AS c n=((c.acts.getD g Al).epoch,(c.acts.getD g Al).to,true):=by
  unfold AS;rw[if_pos hg2]
 rw[hep]at h3 h4;obtain⟨hgn,hgk⟩:=VR (id:=id) (L:=Aw out id) (by omega) hg2
 change g<n at hgn;have hca:c.acts=Aw out id:=Cr _ _;change((Aw out id).getD g Al).kind=16 at hgk
 have hto:(c.acts.getD g Al).to=AR c n:=by simpa using h3.2
 have hg':(Aw out id)[g]? = some ((Aw out id).getD g Al):=by
  rw[List.getD_eq_getElem?_getD,List.getElem?_eq_getElem (by omega)];rfl
 have hgc:=hG.conts id g _ hg';rw[←hca]at hgk hgc;generalize hA:c.acts.getD g Al=A at *;obtain⟨_,_,_,_,w5,w6⟩:=hgc.grant hgk;obtain⟨q1,j0,q2⟩:=ZeC hok hne (g:=g) (by omega)
 change(CI c g).2=true at q1;change c.keys[j0]? = some (CI c g).1 at q2;have q3:=hkeys j0 _ q2;have q4:j0<nk out id:=(List.getElem?_eq_some_iff.1 q2).1
 have nkb:∀i,nk out i≤24:=fun i=>Nat.le_trans (ZdI hG.inv i) (Nat.le_trans (List.length_filter_le _ _) hl)
 refine⟨h1,h2,hg2,hgn,h4.symm,hto,q1,?_⟩
 have act_of:∀{i:Nat} {w:Int},i<4→AL (i:Int) 4=AL w 4→AE (i:Int)=AE w:=fun {i w} hi e=>by rw[←OR (i:Int),←OR w,e]
 constructor
 ·rintro(⟨i,hi,hb,hne',j,hj,hp⟩|⟨w,hw,i,hi,hb,hne',j,hj,hp⟩)
  ·refine⟨i,hi,hb,hne',.inl ?_⟩
   rw[q3]at hp;have :=hD who i j0 j (by have :=nkb id;omega) (by have :=nkb (AE i);omega) hp
   rw[hid];exact act_of hi this.symm
  ·refine⟨i,hi,hb,hne',.inr ?_⟩
   obtain⟨x,hx⟩:=List.mem_iff_getElem?.1 hw;have hxl:=(List.getElem?_eq_some_iff.1 hx).1
   have ht:A.to[x]? = some A.to[x]:=List.getElem?_eq_getElem (by omega)
   obtain⟨who',j',e1,e2,e3⟩:=w6 x _ w ht hx;rw[e2]at hp;have :=hD who' i j' j (by have :=nkb A.to[x];omega) (by have :=nkb (AE i);omega) hp
   rw[←hto,act_of hi this.symm,←e1];exact List.getElem_mem _
 ·rintro⟨i,hi,hb,hne',he|hm⟩
  ·refine .inl ⟨i,hi,hb,hne',j0,by rw[he];exact q4,?_⟩
   rw[q3,Rz (hF _ _ (hid.symm.trans he.symm)) j0]
  ·rw[←hto]at hm
   obtain⟨x,hx⟩:=List.mem_iff_getElem?.1 hm;have hxl:=(List.getElem?_eq_some_iff.1 hx).1
   have hw:A.wraps[x]? = some A.wraps[x]:=List.getElem?_eq_getElem (by omega)
   obtain⟨who',j',e1,e2,e3⟩:=w6 x _ _ hx hw;refine .inr ⟨A.wraps[x],List.getElem_mem _,i,hi,hb,hne',j',e3,?_⟩
   rw[e2,Rz (hF _ _ e1) j']
end Tp
end
section
namespace Tp
open Tryz
open Go Co Sg Ac It
open Go.Proofs.YtipfggegddlgdaaGreatDoor.Pe (Ej DZ)
set_option maxRecDepth 100000
def DN(t:Ties)(b:Ac.Act):Ties:=
 if b.kind=7 then { t with follows:=DZ t.follows b.target }
 else if b.kind=8 then { t with accepts:=DZ t.accepts b.target }
 else if b.kind=10 then { t with blocks:=DZ t.blocks b.target }
 else if b.kind=11 then { t with mutes:=DZ t.mutes b.target }
 else t
def IT(t:Ties)(acts:List Ac.Act)(i:Nat)(a:Ac.Act):Ties:=
 if a.kind=7 then { t with follows:=Ej t.follows a.target }
 else if a.kind=8 then { t with accepts:=Ej t.accepts a.target }
 else if a.kind=9 then { t with accepts:=DZ t.accepts a.target }
 else if a.kind=10 then { t with blocks:=Ej t.blocks a.target,follows:=DZ t.follows a.target,accepts:=DZ t.accepts a.target }
 else if a.kind=11 then { t with mutes:=Ej t.mutes a.target }
 else if a.kind=6 then match Bl acts a.object with
  |none=>t
  |some j=>if i≤j then t else DN t (acts.getD j Al)
 else t
def Eb(acts:List Ac.Act):Nat→Ties
 |0=>⟨[],[],[],[]⟩
 |i+1=>IT (Eb acts i) acts i (acts.getD i Al)
def ED(l:List By):List By:=l.mergeSort fun x y=>decide (x≤y)
def Nn(t:Ties):Ties:=⟨ED t.follows,ED t.accepts,ED t.blocks,ED t.mutes⟩
structure PermT(t u:Ties):Prop where
 f:t.follows.Perm u.follows
 a:t.accepts.Perm u.accepts
 b:t.blocks.Perm u.blocks
 m:t.mutes.Perm u.mutes
theorem OQ{L M:List By}(h:L.Perm M)(x:By):(Ej L x).Perm (CU M x):=by
 unfold Ej CU;by_cases hx:x∈L
 ·rw[if_pos hx,if_pos (by rw[List.contains_iff_mem];exact h.mem_iff.1 hx)]
  exact h
 ·rw[if_neg hx,if_neg (by rw[List.contains_iff_mem];exact fun h'=>hx (h.mem_iff.2 h'))]
  refine(List.perm_append_comm (l₁:=L) (l₂:=[x])).trans ?_
  refine(h.cons x).trans ?_
  have e:(M.takeWhile (fun y=>Op.bytesLess y x))++M.dropWhile (fun y=>Op.bytesLess y x)=M:=List.takeWhile_append_dropWhile
  conv=>lhs;rw[←e]
  exact List.perm_middle.symm
theorem Js{L M:List By}(h:L.Perm M)(x:By):(DZ L x).Perm (B3 M x):=by
 unfold DZ B3;refine(h.filter _).trans (List.Perm.of_eq (List.filter_congr fun y _=>?_))
 rw[Bool.beq_comm]
theorem Vs:∀(acts:List Ac.Act) (d:By),Cy (acts.map dg) d=Bl acts d
 |[],_=>rfl
 |a::l,d=>by
  rw[List.map_cons];unfold Cy Bl;rw[Vs l d]
theorem Za6{t u:Ties}(h:PermT t u){acts:List Ac.Act}{i:Nat}(hi:i<acts.length):PermT (IT t acts i (acts.getD i Al)) (EA u acts i (EP acts)):=by
 obtain⟨h1,h2,h3,h4⟩:=h;have hd:(acts.getD i Al).kind=6→EP acts=acts.map dg:=fun hk=>by
  unfold EP;rw[if_pos];rw[List.any_eq_true];refine⟨acts[i],List.getElem_mem hi,?_⟩
  rw[List.getD_eq_getElem?_getD,List.getElem?_eq_getElem hi,Option.getD_some]at hk
  rw[hk];rfl
 unfold IT EA;simp only
 generalize acts.getD i Al=a at *;by_cases k7:a.kind=7
 ·rw[if_pos k7,if_pos k7]
  exact⟨OQ h1 _,h2,h3,h4⟩
 rw[if_neg k7,if_neg k7];by_cases k8:a.kind=8
 ·rw[if_pos k8,if_pos k8]
  exact⟨h1,OQ h2 _,h3,h4⟩
 rw[if_neg k8,if_neg k8];by_cases k9:a.kind=9
 ·rw[if_pos k9,if_pos k9]
  exact⟨h1,Js h2 _,h3,h4⟩
 rw[if_neg k9,if_neg k9];by_cases k10:a.kind=10
 ·rw[if_pos k10,if_pos k10]
  exact⟨Js h1 _,Js h2 _,OQ h3 _,h4⟩
 rw[if_neg k10,if_neg k10];by_cases k11:a.kind=11
 ·rw[if_pos k11,if_pos k11]
  exact⟨h1,h2,h3,OQ h4 _⟩
 rw[if_neg k11,if_neg k11];by_cases k6:a.kind=6
 ·rw[if_pos k6,if_pos k6,hd k6,Vs]
  cases Bl acts a.object with
  |none=>exact⟨h1,h2,h3,h4⟩
  | some j=>
   simp only
   by_cases hij:i≤j
   ·rw[if_pos hij,if_pos hij]
    exact⟨h1,h2,h3,h4⟩
   rw[if_neg hij,if_neg hij];unfold DN;generalize acts.getD j Al=b at *;by_cases j7:b.kind=7
   ·rw[if_pos j7,if_pos j7]
    exact⟨Js h1 _,h2,h3,h4⟩
   rw[if_neg j7,if_neg j7];by_cases j8:b.kind=8
   ·rw[if_pos j8,if_pos j8]
    exact⟨h1,Js h2 _,h3,h4⟩
   rw[if_neg j8,if_neg j8];by_cases j10:b.kind=10
   ·rw[if_pos j10,if_pos j10]
    exact⟨h1,h2,Js h3 _,h4⟩
   rw[if_neg j10,if_neg j10];by_cases j11:b.kind=11
   ·rw[if_pos j11,if_pos j11]
    exact⟨h1,h2,h3,Js h4 _⟩
   rw[if_neg j11,if_neg j11];exact⟨h1,h2,h3,h4⟩
 ·rw[if_neg k6,if_neg k6]
  exact⟨h1,h2,h3,h4⟩
theorem Ta(acts:List Ac.Act):∀n,n≤acts.length→PermT (Eb acts n) (Dv acts n)
 |0,_=>⟨.refl _,.refl _,.refl _,.refl _⟩
 |n+1,h=>Za6 (Ta acts n (by omega)) (by omega)
theorem Ls{L M:List By}(h:L.Perm M)(ha:EX M):ED L=M:=by
 have e:=_root_.Go.mergeSort_of_perm h;have hs:M.mergeSort (fun x y=>decide (x≤y))=M:=List.mergeSort_of_pairwise (ha.imp fun {x y} hxy=>by
  rw[bytesLess_eq]at hxy
  have:x<y:=of_decide_eq_true hxy;exact decide_eq_true (List.le_of_lt this))
 unfold ED;exact e.trans hs
theorem Zbf(acts:List Ac.Act){n:Nat}(hn:n≤acts.length):Nn (Eb acts n)=Dv acts n:=by
 obtain⟨h1,h2,h3,h4⟩:=Ta acts n hn;obtain⟨a1,a2,a3,a4⟩:=Pf acts n;unfold Nn;rw[Ls h1 a1,Ls h2 a2,Ls h3 a3,Ls h4 a4]
end Tp
end
section
namespace Pe
open Tryz
open Go Go.RowKit Co Sg Ac It Sl Tp
set_option maxRecDepth 100000
set_option maxHeartbeats 4000000
theorem Yu{α:Type}(p:α→Bool)(l:List α)(k:Nat)(h:k<l.length):(l.take (k+1)).any p=((l.take k).any p||p l[k]):=by
 rw[List.take_succ_eq_append_getElem h];simp only[List.any_append,List.any_cons,List.any_nil,Bool.or_false]
theorem ZgM(c:Chn)(hcl:c.acts.length≤1000)(hr:Bg c.acts):AC prog 288 [AG c] [] (Av (EP c.acts)) []:=by
 obtain⟨id,acts,keys,prev,gen,fork⟩:=c;simp only at hcl hr ⊢
 have hsz:=BX acts;obtain⟨r,hrr⟩:∃r,EP acts=r:=⟨_,rfl⟩
 rw[hrr];unfold EP at hrr;refine Ah [279,67] [] func288 ?_;refine run ?_;refine AN (fun m e S=>e 1=.ptr 0 0∧e 3=.sl .full []∧S=[.cells [.st id,Bu acts,.sl .ro (keys.map Bt),.st prev,.it .i64 gen,.bo fork]] ∧ ∃(k:Nat) (u:Bool),e 5=.it .i64 (k:Int)∧e 4=.bo u∧u=(acts.take k).any (fun a=>a.kind==6)∧k≤acts.length∧m=acts.length-k) acts.length ⟨Aa,Aa,rfl,0,false,Aa,Aa,by simp,by omega,rfl⟩ ?_
 rintro m e S ⟨s1,s3,rfl,k,u,s5,s4,hu,hk,rfl⟩
 by_cases hlt:k<acts.length
 ·have hg:acts[k]? = some acts[k]:=List.getElem?_eq_getElem hlt
  have hat:=Yu (fun a:Ac.Act=>a.kind==6) acts k hlt
  rw[←hu]at hat;have hlt':(k:Int)<(acts.length:Int):=by omega
  have w1:=AT (k:=k) (by omega)
  generalize acts[k]=a at *;cases u with
  |true=>
   rw[Bool.true_or]at hat;refine Ab (A8 @s1 @s3 @s5 @s4 @hlt' @hg @hsz @w1) ?_;exact Aj (acts.length-(k+1)) (by omega) ⟨Aa,Aa,rfl,k+1,true,Aa,Aa,hat.symm,by omega,rfl⟩
  |false=>
   rw[Bool.false_or]at hat;obtain⟨b,hb⟩:∃b,(a.kind==6)=b:=⟨_,rfl⟩
   rw[hb]at hat;refine Ab (A9 @s1 @s3 @s5 @s4 @hlt' @hg @hsz @w1 @hb) ?_;exact Aj (acts.length-(k+1)) (by omega) ⟨Aa,Aa,rfl,k+1,b,Aa,Aa,hat.symm,by omega,rfl⟩
 have hke:k=acts.length:=by omega
 subst hke;rw[List.take_length]at hu;rw[←hu]at hrr;have hlt':¬(acts.length:Int)<(acts.length:Int):=by omega
 clear hlt hk;cases u with
 | false=>
  rw[if_neg (by decide)]at hrr
  subst hrr;cases acts with
  |nil=>
   refine Ab (A4 @s1 @s3 @s5 @s4) ?_;refine AN (fun m e S=>e 1=.ptr 0 0∧e 3=.sl .full []∧e 4=.bo false∧S=[.cells [.st id,Bu [],.sl .ro (keys.map Bt),.st prev,.it .i64 gen,.bo fork]]∧e 6=.it .i64 0) 0 ⟨Aa,Aa,Aa,rfl,Aa⟩ ?_
   clear s1 s3 s4;rintro m e S ⟨s1,s3,s4,rfl,s6⟩
   refine Ab (A4 @s1 @s3 @s4 @s6) ?_;exact Au
  |cons a acts=>
   have h0:(0:Int)<(((a::acts).length:Nat):Int):=by simp only[List.length_cons];omega
   refine Ab (A5 @s1 @s3 @s5 @s4 @hlt') ?_;refine AN (fun m e S=>e 1=.ptr 0 0∧e 3=.sl .full []∧e 4=.bo false∧S=[.cells [.st id,Bu (a::acts),.sl .ro (keys.map Bt),.st prev,.it .i64 gen,.bo fork]]∧e 6=.it .i64 0) 0 ⟨Aa,Aa,Aa,rfl,Aa⟩ ?_
   clear s1 s3 s4;rintro m e S ⟨s1,s3,s4,rfl,s6⟩
   refine Ab (A5 @s1 @s3 @s4 @s6 @h0) ?_;exact Au
 | true=>
  rw[if_pos rfl]at hrr;subst hrr;refine Ab (A5 @s1 @s3 @s5 @s4 @hlt') ?_;refine Cq (fun m e S=>e 1=.ptr 0 0∧e 4=.bo true ∧ ∃(k:Nat) (acc:List By) (T:Ae),e 6=.it .i64 (k:Int)∧e 3=.sl (.own 1) (acc.map .st)∧S=.cells [.st id,Bu acts,.sl .ro (keys.map Bt),.st prev,.it .i64 gen,.bo fork]::.buf acc.length 9 1::T∧acc=(acts.take k).map dg∧k≤acts.length∧m=acts.length-k) acts.length _ _ (Ao.reserve 0 3 (es:=[]) (by exact s3) 9 1)
   ⟨Aa,Aa,0,[],[],Aa,Aa,rfl,by simp,by omega,rfl⟩ ?_
  clear s1 s3 s4 s5;rintro m e S ⟨s1,s4,k,acc,T,s6,s3,rfl,hacc,hk,rfl⟩
  have hal:acc.length≤k:=by rw[hacc,List.length_map,List.length_take];omega
  have hsa:=D8 acc;by_cases hlt:k<acts.length
  ·have hg:acts[k]? = some acts[k]:=List.getElem?_eq_getElem hlt
   have hst:acc++[dg acts[k]]=(acts.take (k+1)).map dg:=by rw[List.take_succ_eq_append_getElem hlt,List.map_append,←hacc];rfl
   have hlt':(k:Int)<(acts.length:Int):=by omega
   have w1:=AT (k:=k) (by omega)
   have ko:=Wb acts[k];have kd:=GQ acts[k] (Dp (act_signed [] (hr _ (List.getElem_mem hlt))).1);generalize acts[k]=a at *;generalize dg a=d at *;refine Ab (A8 @s1 @s4 @s6 @s3 @hlt' @hg @hsz @w1) ?_;refine cp ko ?_;refine Ab (A4 @s1 @s4 @s6 @s3) ?_;refine cp kd ?_;refine Ab (A6 @s1 @s4 @s6 @s3 @hsa @w1) ?_;exact Aj (acts.length-(k+1)) (by omega) ⟨Aa,Aa,k+1,acc++[d],_,Aa,by rw[List.map_append];exact Aa,by rw[List.length_append];rfl,hst,by omega,rfl⟩
  ·obtain rfl:k=acts.length:=by omega
   rw[List.take_length]at hacc;subst hacc;have hlt':¬(acts.length:Int)<(acts.length:Int):=by omega
   refine Ab (A5 @s1 @s4 @s6 @s3 @hlt') ?_;exact Au
theorem HZ(acts:List Ac.Act):∀n,TOk (Dv acts n) n
 |0=>⟨Nat.le_refl _,Nat.le_refl _,Nat.le_refl _,Nat.le_refl _⟩
 |n+1=>Zia (HZ acts n) acts n _
theorem TOk.le{t:Ties}{n m:Nat}(h:TOk t n)(hm:n≤m):TOk t m:=⟨by have :=h.f;omega,by have :=h.a;omega,by have :=h.b;omega,by have :=h.m;omega⟩
theorem ZgL(acts:List Ac.Act):(EP acts).length≤acts.length:=by
 unfold EP;split
 ·rw[List.length_map];omega
 ·exact Nat.zero_le _
theorem ZaK(c:Chn)(n:Nat)(hcl:c.acts.length≤500)(hn:n≤500)(hr:Bg c.acts):AC prog 206 [AG c,.it .i64 (n:Int)] [] (Nc (Cm c n)) []:=by
 have kd:=ZgM c (by omega) hr
 have hdl:=ZgL c.acts;have hok:=HZ c.acts;have ka:=fun(t:Ties) (i:Nat) (hi:i<c.acts.length) (ht:TOk t 1000)=>Zid t c i (EP c.acts) hi (by omega) ht (by omega)
 have hstep:∀i,Dv c.acts (i+1)=EA (Dv c.acts i) c.acts i (EP c.acts):=fun _=>rfl
 unfold Cm;generalize EP c.acts=D at *;refine Ah [288,289] [] func206 ?_;refine run ?_;refine cp kd ?_;refine run ?_;refine AN (fun m e S=>e 1=.it .i64 (n:Int)∧e 2=.ptr 0 0∧e 4=.ptr 1 0∧e 5=.ptr 2 0∧e 6=Av D ∧ ∃(i:Nat) (m1 m2 m3 m4:Mode),e 7=.it .i64 (i:Int)∧S=[.cells [.st c.id,Bu c.acts,.sl .ro (c.keys.map Bt),.st c.prev,.it .i64 c.gen,.bo c.fork],.cells [.sl .full [],.sl .full [],.sl .full [],.sl .full []],.cells [.sl m1 ((Dv c.acts i).follows.map .st),.sl m2 ((Dv c.acts i).accepts.map .st),.sl m3 ((Dv c.acts i).blocks.map .st),.sl m4 ((Dv c.acts i).mutes.map .st)]]∧i≤min n c.acts.length∧m=min n c.acts.length-i) (min n c.acts.length) ⟨Aa,Aa,Aa,Aa,Aa,0,.full,.full,.full,.full,Aa,rfl,by omega,rfl⟩ ?_
 rintro m e S ⟨s1,s2,s4,s5,s6,i,m1,m2,m3,m4,s7,rfl,hi,rfl⟩
 rw[Db s4];by_cases hlt:i<min n c.acts.length
 ·have h1:(i:Int)<(c.acts.length:Int):=by omega
  have h2:(i:Int)<(n:Int):=by omega
  have w1:=AT (k:=i) (by omega)
  have kx:=ka (Dv c.acts i) i (by omega) ((hok i).le (by omega))
  rw[←hstep i]at kx;have hti:=hok i;generalize Dv c.acts i=t at *;refine Ab (A8 @s1 @s2 @s4 @s5 @s6 @s7 @h1 @h2) ?_;refine cp kx ?_;refine Ab (A7 @s1 @s2 @s4 @s5 @s6 @s7 @w1) ?_;exact Aj (min n c.acts.length-(i+1)) (by omega) ⟨Aa,Aa,Aa,Aa,Aa,i+1,.ro,.ro,.ro,.ro,Aa,rfl,by omega,rfl⟩
 ·obtain rfl:i=min n c.acts.length:=by omega
  generalize Dv c.acts (min n c.acts.length)=t at *;by_cases hle:c.acts.length≤n
  ·have hmn:min n c.acts.length=c.acts.length:=by omega
   rw[hmn]at s7;have h1:¬(c.acts.length:Int)<(c.acts.length:Int):=by omega
   refine Ab (A7 @s1 @s2 @s4 @s5 @s6 @s7 @h1) ?_;exact Au
  ·have hmn:min n c.acts.length=n:=by omega
   rw[hmn]at s7;have h1:(n:Int)<(c.acts.length:Int):=by omega
   have h2:¬(n:Int)<(n:Int):=by omega
   refine Ab (A8 @s1 @s2 @s4 @s5 @s6 @s7 @h1 @h2) ?_;exact Au
theorem Qs(l:List By)(s:By):Eu l s=if l[BD l s]? = some s then l else l.take (BD l s)++s::l.drop (BD l s):=by
 unfold Eu;rw[←N4,←N5,List.head?_drop]
theorem ZeS(l:List By)(s:By):(Eu l s).length≤l.length+1:=by
 rw[Qs];have :=Qg l s;split
 ·omega
 ·rw[List.length_append,List.length_cons,List.length_take,List.length_drop];omega
theorem ZeQ(l:List By)(d:By)(hl:l.length≤1000):AC prog 209 [Av l,.st d] [] (Av (Eu l d)) []:=by
 have hsz:=D8 l;have hszt:AK 1 ((l.take (BD l d)).map AV.st)=true:=D8 _;have hszd:AK 1 ((l.drop (BD l d)).map AV.st)=true:=D8 _;have hres:(l.take (BD l d)++d::l.drop (BD l d)).map AV.st=(l.take (BD l d)).map AV.st++[AV.st d]++(l.drop (BD l d)).map AV.st:=by
  rw[List.map_append,List.map_cons,List.append_assoc];rfl
 have htl:(l.take (BD l d)).length=BD l d:=by rw[List.length_take];have :=Qg l d;omega
 rw[Qs];show AC _ _ _ _ (.sl .ro ((if l[BD l d]? = some d then l else l.take (BD l d)++d::l.drop (BD l d)).map AV.st)) _
 refine Ah [] [] func209 ?_;refine run ?_;refine AN (fun m e S=>e 0=Av l∧e 1=.st d∧S=[] ∧ ∃i:Nat,e 5=.it .i64 (i:Int)∧BD l d=i+BD (l.drop i) d∧i≤l.length∧m=l.length-i) l.length ⟨Aa,Aa,rfl,0,Aa,by simp,by omega,rfl⟩ ?_
 rintro m e S ⟨s0,s1,rfl,i,s5,he,hi,rfl⟩
 by_cases hlt:i<l.length
 rotate_left
 ·obtain rfl:i=l.length:=by omega
  rw[List.drop_length]at he;have he:BD l d=l.length:=he;have hlt':¬(l.length:Int)<(l.length:Int):=by omega
  rw[if_neg (by rw[he,List.getElem?_eq_none (Nat.le_refl _)];simp),hres]
  rw[he]at hszt hszd htl ⊢;refine Ab (A8 @s0 @s1 @s5 @hlt' @hsz @hszt @hszd @htl) ?_;exact Au
 have hg:l[i]? = some l[i]:=List.getElem?_eq_getElem hlt
 have hdr:l.drop i=l[i]::l.drop (i+1):=List.drop_eq_getElem_cons hlt;have hlt':(i:Int)<(l.length:Int):=by omega
 have w1:=AT (k:=i) (by omega)
 rw[hdr,UW]at he;generalize l[i]=x at *;cases hle:Op.bytesLess x d with
 |true=>
  rw[if_pos hle]at he;refine Ab (A8 @s0 @s1 @s5 @hlt' @hg @hsz @hle @w1) ?_;exact Aj (l.length-(i+1)) (by omega) ⟨Aa,Aa,rfl,i+1,Aa,by omega,by omega,rfl⟩
 | false=>
  rw[if_neg (by rw[hle];decide),Nat.add_zero]at he
  by_cases hx:x=d
  ·have q:(x==d)=true:=beq_iff_eq.2 hx
   rw[if_pos (by rw[he,hg,hx])]
   refine Ab (A8 @s0 @s1 @s5 @hlt' @hg @hsz @hle @q) ?_;exact Au
  ·have q:(x==d)=false:=beq_eq_false_iff_ne.2 hx
   rw[if_neg (by rw[he,hg];intro h;exact hx (Option.some.inj h)),hres]
   rw[he]at hszt hszd htl ⊢;refine Ab (An @s0 @s1 @s5 @hlt' @hg @hsz @hle @q @hszt @hszd @htl) ?_;exact Au
end Pe
end
section
namespace Pe
open Tryz
open Go Go.RowKit Co Sg Ac It Sl Tp
set_option maxRecDepth 100000
set_option maxHeartbeats 4000000
theorem G0(s:By)(h:s.length≤1000000):(text s).length≤s.length+9:=by
 have :=EJ (n:=s.length) (by omega)
 unfold text;rw[List.length_append];omega
theorem Zeb{l:List By}(h:l.length≤10)(hs:∀s∈l,s.length≤5000):(list l).length≤60000:=by
 have key:∀m:List By,(∀s∈m,s.length≤5000)→(m.map text).flatten.length≤m.length*5009:=by
  intro m;induction m with
  |nil=>intro _;simp
  |cons s m ih=>
   intro h;have e0:=h s (by simp)
   have e1:=G0 s (by omega)
   have e2:=ih fun x hx=>h x (by simp[hx])
   rw[List.map_cons,List.flatten_cons,List.length_append,List.length_cons,Nat.succ_mul];omega
 have h3:=key l hs;have h4:l.length*5009≤10*5009:=Nat.mul_le_mul_right _ h;have h5:=EJ (n:=l.length) (by omega)
 unfold list;rw[List.length_append];omega
theorem Mc(l:List By):(hL l).length=32:=rfl
theorem Md(l:List By)(h:l.length≤10)(hs:∀s∈l,s.length≤5000):AC prog 291 [Av l] [] (.st (hL l)) []:=by
 have k1:=Wg l (by omega) (fun s hx=>by have :=hs s hx;omega)
 have hl:=Zeb h hs;have k2:=J8 (list l) (by omega)
 unfold hL;generalize list l=x at *;refine Ah [153,75] [] func291 ?_;refine run ?_;refine cp k1 ?_;refine run ?_;refine cp k2 ?_;refine run ?_;exact Ad
def FO(key nonce:By)(i:Nat):By:=hL [M9,key,nonce,Ai ((i / 32:Nat):Int)]
theorem UO(key nonce s:By):(Gj key nonce s).length=s.length:=by simp[Gj]
theorem TS(n k:Nat)(h:k≤n):(List.range n).take k=List.range k:=by
 apply List.ext_getElem
 ·simp;omega
 ·intro i h1 h2
  simp
theorem ZdR(key nonce s:By)(k:Nat)(h:k<s.length):(Gj key nonce s).take (k+1)=(Gj key nonce s).take k++[(s.getD k 0)^^^((FO key nonce k).getD (k % 32) 0)]:=by
 unfold Gj FO;rw[←List.map_take,←List.map_take,TS _ _ (by omega),TS _ _ (by omega),List.range_succ,List.map_append]
 rfl
theorem ZdQ(key nonce s:By)(hk:key.length≤5000)(hn:nonce.length≤5000)(hs:s.length≤100000):AC prog 286 [.st key,.st nonce,.st s] [] (.st (Gj key nonce s)) []:=by
 have hml:=UO key nonce s;have hmt:=ZdR key nonce s;refine Ah [77,291] [] func286 ?_;refine run ?_;refine Cq (fun m e S=>e 0=.st key∧e 1=.st nonce∧e 2=.st s ∧ ∃(k:Nat) (acc blk:By) (T:Ae),e 9=.it .i64 (k:Int)∧e 7=.sl (.own 0) (acc.map u8)∧e 8=.st blk∧S=.buf acc.length 5 1::T∧acc=(Gj key nonce s).take k∧(k % 32≠0→blk=FO key nonce k)∧k≤s.length∧m=s.length-k) s.length _ _ (Ao.reserve 0 7 (es:=[]) (by rfl) 5 1)
  ⟨Aa,Aa,Aa,0,[],[],[],Aa,Aa,Aa,rfl,by simp,fun h=>absurd rfl h,by omega,rfl⟩ ?_
 rintro m e S ⟨s0,s1,s2,k,acc,blk,T,s9,s7,s8,rfl,hacc,hblk,hk',rfl⟩
 have hal:acc.length=k:=by rw[hacc,List.length_take,hml,Nat.min_eq_left hk']
 have hu8:∀b:UInt8,u8 b=.it .u8 (b.toNat:Int):=fun _=>rfl
 by_cases hlt:k<s.length
 ·have hg:s[k]? = some (s.getD k 0):=by rw[List.getD_eq_getElem?_getD,List.getElem?_eq_getElem hlt];rfl
  have hst:=hmt k hlt;rw[←hacc]at hst;have hlt':(k:Int)<(s.length:Int):=by omega
  have w1:=AT (k:=k) (by omega)
  have wd:IntKind.i64.wrap (((k:Nat):Int).tdiv 32)=((k / 32:Nat):Int):=by
   rw[show((k:Nat):Int).tdiv 32=((k / 32:Nat):Int)from rfl]
   exact wrap64 (by omega) (by omega)
  have wr:((k:Nat):Int).tmod 32=((k % 32:Nat):Int):=rfl;have hb32:(FO key nonce k).length=32:=Mc _;have hgb:(FO key nonce k)[k % 32]? = some ((FO key nonce k).getD (k % 32) 0):=by rw[List.getD_eq_getElem?_getD,List.getElem?_eq_getElem (show k % 32<(FO key nonce k).length by omega)];rfl
  have hx8:∀a b:UInt8,Go.bits .xor .u8 (a.toNat:Int) (b.toNat:Int)=((a^^^b).toNat:Int):=fun a b=>by rw[u8_xor_nat _ _ a.toNat_lt b.toNat_lt,←UInt8.toNat_xor]
  have hnext:(k+1) % 32≠0→FO key nonce (k+1)=FO key nonce k:=fun h=>by
   unfold FO;rw[show(k+1) / 32=k / 32 by omega]
  have knum:=B2 ((k / 32:Nat):Int) (by omega)
  have hnl:=AI ((k / 32:Nat):Int) (by omega)
  have kh:=Md [M9,key,nonce,Ai ((k / 32:Nat):Int)] (by simp) (by
   simp only[List.forall_mem_cons];refine⟨by decide,hk,hn,by omega,fun x hx=>by cases hx⟩)
  change AC _ _ _ _ (.st (FO key nonce k)) _ at kh;have hwl:(Av [M9,key,nonce,Ai ((k / 32:Nat):Int)])=.sl .ro [.st [115,116,114,101,97,109],.st key,.st nonce,.st (Ai ((k / 32:Nat):Int))]:=rfl;rw[hwl]at kh;generalize Ai ((k / 32:Nat):Int)=nm at *;generalize hcb:FO key nonce k=B at *;generalize s.getD k 0=c1 at *;generalize B.getD (k % 32) 0=c2 at *;by_cases h0:k % 32=0
  ·have q0:(((k % 32:Nat):Int)==0)=true:=by rw[h0];rfl
   refine Ab (BZ @s0 @s1 @s2 @s9 @s7 @s8 @hlt' @wr @q0 @wd) ?_;refine cp knum ?_;refine Ab (A6 @s0 @s1 @s2 @s9 @s7 @s8) ?_;refine cp kh ?_;refine Ab (An @s0 @s1 @s2 @s9 @s7 @hg @hgb @wr @hu8 @hx8 @w1) ?_;exact Aj (s.length-(k+1)) (by omega) ⟨Aa,Aa,Aa,k+1,acc++[c1^^^c2],B,_,Aa,by rw[List.map_append];exact Aa,Aa,by rw[List.length_append];rfl,hst.symm,fun h=>(hnext h).symm,by omega,rfl⟩
  ·have q0:(((k % 32:Nat):Int)==0)=false:=beq_eq_false_iff_ne.2 (by omega)
   have hbe:=hblk h0;rw[hbe]at s8;refine Ab (an @s0 (an @s1 (an @s2 (An @s9 @s7 @s8 @hlt' @wr @q0 @hg @hgb @hu8 @hx8 @w1)))) ?_;exact Aj (s.length-(k+1)) (by omega) ⟨Aa,Aa,Aa,k+1,acc++[c1^^^c2],B,_,Aa,by rw[List.map_append];exact Aa,Aa,by rw[List.length_append];rfl,hst.symm,fun h=>(hnext h).symm,by omega,rfl⟩
 ·obtain rfl:k=s.length:=by omega
  rw[List.take_of_length_le (by omega)]at hacc
  have hbo:bytesOf (acc.map u8)=some acc:=Kw acc;have hlt':¬(s.length:Int)<(s.length:Int):=by omega
  rw[←hacc];refine Ab (A8 @s0 @s1 @s2 @s9 @s7 @s8 @hlt' @hbo) ?_;exact Ad
theorem ZaS(key nonce data:By)(hk:key.length≤5000)(hn:nonce.length≤5000)(hs:data.length≤5000):AC prog 287 [.st key,.st nonce,.st data] [] (.st (Nh key nonce data)) []:=by
 have kh:=Md [M8,key,nonce,data] (by simp) (by
  simp only[List.forall_mem_cons];exact⟨by decide,hk,hn,hs,fun x hx=>by cases hx⟩)
 have hl:16≤(hL [M8,key,nonce,data]).length:=by rw[Mc];decide
 change AC _ _ [.sl .ro [.st [116,97,103],.st key,.st nonce,.st data]] _ _ _ at kh;unfold Nh;generalize hL [M8,key,nonce,data]=u at *;refine Ah [291] [] func287 ?_;refine run ?_;refine cp kh ?_;refine Ab @hl ?_;exact Ad
theorem Tk(key nonce plain:By)(hk:key.length≤5000)(hn:nonce.length≤5000)(hs:plain.length≤5000):AC prog 205 [.st key,.st nonce,.st plain] [] (Kx (G2 key nonce plain)) []:=by
 have hml:=UO key nonce plain;have k1:=ZdQ key nonce plain hk hn (by omega)
 have k2:=ZaS key nonce (Gj key nonce plain) hk hn (by omega)
 unfold G2;generalize Gj key nonce plain=d at *;generalize Nh key nonce d=t at *;refine Ah [286,287] [] func205 ?_;refine run ?_;refine cp k1 ?_;refine run ?_;refine cp k2 ?_;refine run ?_;exact Ad
theorem Z9(a b c:Int)(ha:-9223372036854775808≤a∧a≤9223372036854775807)(hb:-9223372036854775808≤b∧b≤9223372036854775807)(hc:-9223372036854775808≤c∧c≤9223372036854775807):AC prog 292 [.it .i64 a,.it .i64 b,.it .i64 c] [] (.st (KL a b c)) []:=by
 have k1:=B2 a (by omega)
 have k2:=B2 b (by omega)
 have k3:=B2 c (by omega)
 have n1:=AI a (by omega)
 have n2:=AI b (by omega)
 have n3:=AI c (by omega)
 have kh:=Md [O7,Ai a,Ai b,Ai c] (by simp) (by
  simp only[List.forall_mem_cons];exact⟨by decide,by omega,by omega,by omega,fun x hx=>by cases hx⟩)
 change AC _ _ [.sl .ro [.st [119,114,97,112],.st (Ai a),.st (Ai b),.st (Ai c)]] _ _ _ at kh;unfold KL;generalize hL [O7,Ai a,Ai b,Ai c]=u at *;generalize Ai a=x at *;generalize Ai b=y at *;generalize Ai c=z at *;refine Ah [77,291] [] func292 ?_;refine run ?_;refine cp k1 ?_;refine run ?_;refine cp k2 ?_;refine run ?_;refine cp k3 ?_;refine run ?_;refine cp kh ?_;refine run ?_;exact Ad
theorem Sa(p:Int)(seed plain:By)(hp:1≤p∧p≤2305843009213693950)(hs:seed.length≤5000)(hl:plain.length≤5000):AC prog 210 [.it .i64 p,.st seed,.st plain] [] (.tup [Bj (GX p seed plain),.bo true]) []:=by
 have k1:=B2 p (by omega)
 have n1:=AI p (by omega)
 have k2:=Md [KQ,seed,Ai p] (by simp) (by
  simp only[List.forall_mem_cons];exact⟨by decide,hs,by omega,fun x hx=>by cases hx⟩)
 change AC _ _ [.sl .ro [.st [101,112,104],.st seed,.st (Ai p)]] _ _ _ at k2;have hd:=Mc [KQ,seed,Ai p];have k3:=Ts (hL [KQ,seed,Ai p]) (by omega)
 unfold GX;simp only
 generalize hL [KQ,seed,Ai p]=u at *;generalize hE:1+Sm.num u % 2305843009213693949=E at *;have hEr:1≤E∧E≤2305843009213693949:=by omega
 have e1:((Sm.num u:Nat):Int).tmod 2305843009213693949=((Sm.num u % 2305843009213693949:Nat):Int):=rfl;have w1:IntKind.i64.wrap (1+((Sm.num u % 2305843009213693949:Nat):Int))=(E:Int):=by rw[wrap64 (by omega) (by omega)];omega
 have k4:=Ka 37 (E:Int) (by omega) (by omega)
 have k5:=Ka p (E:Int) (by omega) (by omega)
 rw[Hp 37 37 E rfl (by decide)]at k4
 rw[Hp p p.toNat E (by omega) (by omega)]at k5
 have q1:=GG 37 E;have q2:=GG p.toNat E;change AC _ _ _ _ (.it .i64 ((Bq 37 E:Nat):Int)) _ at k4;generalize Bq 37 E=eph at *;generalize Bq p.toNat E=sh at *;have k6:=Z9 p (eph:Int) (sh:Int) (by omega) (by omega) (by omega)
 have hwl:(KL p (eph:Int) (sh:Int)).length=32:=Mc _;generalize KL p (eph:Int) (sh:Int)=k at *;have k7:=Md [Tp.wNonce,k] (by simp) (by
  simp only[List.forall_mem_cons];exact⟨by decide,by omega,fun x hx=>by cases hx⟩)
 change AC _ _ [.sl .ro [.st [110,111,110,99,101],.st k]] _ _ _ at k7;have hnl2:=Mc [Tp.wNonce,k];generalize hL [Tp.wNonce,k]=nc at *;have k8:=Tk k nc plain (by omega) (by omega) hl
 generalize G2 k nc plain=bx at *;have c1:¬p<1:=by omega
 have c2:¬p≥2305843009213693951:=by omega
 refine Ah [77,291,290,150,292,205] [] func210 ?_;refine Ab (an @c1 @c2) ?_;refine cp k1 ?_;refine run ?_;refine cp k2 ?_;refine run ?_;refine cp k3 ?_;refine Ab (an @e1 @w1) ?_;refine cp k4 ?_;refine run ?_;refine cp k5 ?_;refine run ?_;refine cp k6 ?_;refine run ?_;refine cp k7 ?_;refine run ?_;refine cp k8 ?_;refine run ?_;exact Ad
end Pe
end
section
namespace Pe
open Tryz
open Go Go.RowKit Co Sg Ac It Sl Tp
set_option maxRecDepth 100000
set_option maxHeartbeats 4000000
abbrev Q7(c:Chn):List AV:=[.st c.id,Bu c.acts,.sl .ro (c.keys.map Bt),.st c.prev,.it .i64 c.gen,.bo c.fork]
theorem Zdw{l:List Ac.Act}{id:By}(h:(Ct (BK l id) id).length≠1):Bc l id=⟨id,[],[],[],0,decide (1<(Ct (BK l id) id).length)⟩:=by
 unfold Bc;generalize Ct (BK l id) id=B at *;match B,h with
 |[],_=>rfl
 |[a],h=>exact absurd rfl h
 |a::b::t,_=>rw[decide_eq_true (by simp)]
theorem Zdv{l:List Ac.Act}{id:By}{a:Ac.Act}(h:Ct (BK l id) id=[a]):Bc l id=C3 (l.length+1) (BK l id) (Bz ⟨id,[],[],[],0,false⟩ a):=by
 unfold Bc;rw[h]
theorem Zfm{n:Nat}{l:List Ac.Act}{c:Chn}(h:(BJ l c).length≠1):C3 (n+1) l c={ c with fork:=decide (1<(BJ l c).length) }:=by
 unfold C3;generalize BJ l c=B at *;match B,h with
 |[],_=>rfl
 |[a],h=>exact absurd rfl h
 |a::b::t,_=>rw[decide_eq_true (by simp)]
theorem Zfl{n:Nat}{l:List Ac.Act}{c:Chn}{a:Ac.Act}(h:BJ l c=[a]):C3 (n+1) l c=C3 n l (Bz c a):=by
 rw[C3,h]
theorem Uk{α:Type}{B:List α}(h:B.length=1):∃a,B=[a]:=List.length_eq_one_iff.1 h
theorem OD(ps:List Int)(l:List Ac.Act)(id:By)(hl:l.length≤100)(hr:Bg l):AC prog 56 [DX ps l,.st id] [] (AG (Bc l id)) []:=by
 have hal:=Zit l id;have hrL:Bg (BK l id):=fun a ha=>hr a (YM ha)
 have k1:=ZeH ps l id (by omega) hr
 have k2:=ZhF (BK l id) id (by omega) hrL
 have hszB:=BX (Ct (BK l id) id);have hon:=fun a (h:Ct (BK l id) id=[a])=>Zdv h
 have hBm:∀a,Ct (BK l id) id=[a]→a∈BK l id∧a.kind=0:=fun a h=>Yj (by rw[h];simp)
 by_cases hB:(Ct (BK l id) id).length=1
 rotate_left
 ·have hn:=Zdw hB
  have q1:(((Ct (BK l id) id).length:Int) !=1)=true:=C6 (by omega)
  have q2:decide (((Ct (BK l id) id).length:Int)>1)=decide (1<(Ct (BK l id) id).length):=by rw[decide_eq_decide];omega
  rw[hn];generalize Ct (BK l id) id=B at *;generalize BK l id=L at *;refine Ah [119,120,121,122,123] [] func56 ?_;refine run ?_;refine cp k1 ?_;refine run ?_;refine cp k2 ?_;refine Ab (an @q1 @q2) ?_;exact Au
 obtain⟨b,hb⟩:=Uk hB;have hon:=hon b hb;obtain⟨hbm,hbk⟩:=hBm b hb;have hbr:=hrL b hbm;have q1:(((Ct (BK l id) id).length:Int) !=1)=false:=Df (by omega)
 have hg0:(Ct (BK l id) id)[0]? = some b:=by rw[hb];rfl
 have hB0:(0:Int)<((Ct (BK l id) id).length:Int):=by omega
 have k3:=XO ⟨id,[],[],[],0,false⟩ b (by simp) (by simp) hbr
 have hok0:=KB (Ms id false) hbr fun _=>hbk
 have hac0:(Bz ⟨id,[],[],[],0,false⟩ b).acts≠[]:=by simp[Bz]
 rw[hon];generalize Ct (BK l id) id=B at *;generalize BK l id=L at *;generalize Bz ⟨id,[],[],[],0,false⟩ b=c0 at *;refine Ah [119,120,121,122,123] [] func56 ?_;refine run ?_;refine cp k1 ?_;refine run ?_;refine cp k2 ?_;refine Ab (A4 @q1 @hg0 @hszB @hB0) ?_;refine cp k3 ?_;refine run ?_;refine AN (fun m e S=>e 2=.ptr 0 0∧e 4=.ptr 1 0∧e 5=.ptr 2 0∧e 6=Bu L ∧ ∃(i:Nat) (c:Chn) (T:Ae),e 8=.it .i64 (i:Int)∧S=.cells [AP ps,.sl .ro (l.map Ba)]::.cells [.st [],.sl .full [],.sl .full [],.st [],.it .i64 0,.bo false]::.cells (Q7 c)::T∧C3 (l.length+1) L c0=C3 (l.length+1-i) L c∧COk c (i+1)∧c.acts≠[]∧i≤l.length+1∧m=l.length+1-i) (l.length+1) ⟨Aa,Aa,Aa,Aa,0,c0,[],Aa,rfl,rfl,hok0,hac0,by omega,rfl⟩ ?_
 rintro m e S ⟨s2,s4,s5,s6,i,c,T,s8,rfl,hgr,hok,hac,hi,rfl⟩
 rw[Db s4];rw[hgr];have hcl:=hok.len;have hck:=hok.klen;by_cases hlt:i≤l.length
 ·have hlt':(i:Int)≤(l.length:Int):=by omega
  have w1:=AT (k:=i) (by omega)
  have hm1:l.length+1-i=(l.length-i)+1:=by omega
  have kc:=ZhC ps l c (by omega) (by omega)
  have kd:=ZhD L c (i+1) (by omega) hrL hok (by omega) (hok.key hac)
  have hszD:=BX (BJ L c);have hT1:∀y:SObj,(T++[y])[T.length]? = some y:=fun y=>by simp
  have hT2:∀y z:SObj,(T++[y]).set T.length z=T++[z]:=fun y z=>by simp
  by_cases hD:(BJ L c).length=1
  ·obtain⟨d,hd⟩:=Uk hD
   have hdm:d∈BJ L c:=by rw[hd];simp
   obtain⟨hd1,hd2⟩:=Wp (XP hdm).2;have q1:(((BJ L c).length:Int) !=1)=false:=Df (by omega)
   have hgd:(BJ L c)[0]? = some d:=by rw[hd];rfl
   have hD0:(0:Int)<((BJ L c).length:Int):=by omega
   have ka:=XO c d (by omega) (by omega) hd1
   have hok':=KB hok hd1 hd2;have hac':(Bz c d).acts≠[]:=by simp[Bz]
   have hg1:C3 (l.length+1-i) L c=C3 (l.length+1-(i+1)) L (Bz c d):=by
    rw[hm1,Zfl hd];congr 1
    omega
   rw[hg1]at hgr ⊢;generalize Bz c d=c' at *;generalize BJ L c=D at *;refine Ab (A6 @s2 @s4 @s5 @s6 @s8 @hlt') ?_;refine cp kc ?_;refine Ab (A7 @s2 @s4 @s5 @s6 @s8 @hT1 @hT2) ?_;refine cp kd ?_;refine Ab (A9 @s2 @s4 @s5 @s6 @s8 @q1 @hgd @hszD @hD0) ?_;refine cp ka ?_;refine Ab (A6 @s2 @s4 @s5 @s6 @s8 @w1) ?_;exact Aj (l.length+1-(i+1)) (by omega) ⟨Aa,Aa,Aa,Aa,i+1,c',_,Aa,rfl,rfl,hok',hac',by omega,rfl⟩
  ·have q1:(((BJ L c).length:Int) !=1)=true:=C6 (by omega)
   have q2:decide (((BJ L c).length:Int)>1)=decide (1<(BJ L c).length):=by rw[decide_eq_decide];omega
   have hg1:C3 (l.length+1-i) L c={ c with fork:=decide (1<(BJ L c).length) }:=by
    rw[hm1,Zfm hD]
   rw[hg1];generalize BJ L c=D at *;refine Ab (A6 @s2 @s4 @s5 @s6 @s8 @hlt') ?_;refine cp kc ?_;refine Ab (A7 @s2 @s4 @s5 @s6 @s8 @hT1 @hT2) ?_;refine cp kd ?_;refine Ab (A7 @s2 @s4 @s5 @s6 @s8 @q1 @q2) ?_;exact Ad
 ·obtain rfl:i=l.length+1:=by omega
  have hlt':¬((l.length+1:Nat):Int)≤(l.length:Int):=by omega
  have hg1:C3 (l.length+1-(l.length+1)) L c=c:=by rw[Nat.sub_self];rfl
  rw[hg1];refine Ab (A6 @s2 @s4 @s5 @s6 @s8 @hlt') ?_;exact Ad
end Pe
end
section
namespace Pe
open Tryz
open Go Go.RowKit Co Sg Ac It Sl Tp
set_option maxRecDepth 100000
set_option maxHeartbeats 4000000
theorem V5(l acc:List By):(l.foldl Eu acc).length≤acc.length+l.length:=by
 induction l generalizing acc with
 |nil=>exact Nat.le_refl _
 |cons x l ih=>
  have h1:=ih (Eu acc x);have h2:=ZeS acc x;rw[List.foldl_cons,List.length_cons];omega
theorem Qf(c:Chn)(n:Nat)(hcl:c.acts.length≤400)(hn:n≤500)(hr:Bg c.acts):AC prog 125 [AG c,.it .i64 (n:Int),.it .i64 1,.st [],.sl .ro []] [] (Av (AR c n)) []:=by
 have kt:=ZaK c n (by omega) hn hr
 have htk:TOk (Cm c n) 400:=(HZ c.acts (min n c.acts.length)).le (by omega)
 unfold AR;generalize Cm c n=t at *;obtain⟨tf,A,B,tm⟩:=t;have hA:=htk.a;have hB:=htk.b;simp only at hA hB ⊢
 have hszA:=D8 A;have kh:=fun x=>VI B x (by omega)
 have ki:=fun(m:List By) x (h:m.length≤1000)=>ZeQ m x h
 refine Ah [206,208,209,207] [] func125 ?_;refine run ?_;refine cp kt ?_;refine run ?_;refine AN (fun m e S=>e 5=.ptr 0 0∧e 11=.ptr 1 0∧e 12=Av A∧S=[.cells [.st c.id,Bu c.acts,.sl .ro (c.keys.map Bt),.st c.prev,.it .i64 c.gen,.bo c.fork],.cells [Av tf,Av A,Av B,Av tm]] ∧ ∃(k:Nat) (acc:List By) (md:Mode),e 14=.it .i64 (k:Int)∧e 13=.sl md (acc.map .st)∧acc=((A.take k).filter (fun x=>!(x==c.id) && !(B.contains x))).foldl Eu []∧k≤A.length∧m=A.length-k) A.length ⟨Aa,Aa,Aa,rfl,0,[],.full,Aa,Aa,by simp,by omega,rfl⟩ ?_
 rintro m e S ⟨s5,s11,s12,rfl,k,acc,md,s14,s13,hacc,hk,rfl⟩
 have hal:acc.length≤k:=by
  have h1:=V5 ((A.take k).filter (fun x=>!(x==c.id) && !(B.contains x))) []
  have h2:=List.length_filter_le (fun x:By=>!(x==c.id) && !(B.contains x)) (A.take k)
  rw[←hacc]at h1;rw[List.length_take]at h2;simp only[List.length_nil]at h1;omega
 by_cases hlt:k<A.length
 ·have hg:A[k]? = some A[k]:=List.getElem?_eq_getElem hlt
  have hst:=Ot (fun x:By=>!(x==c.id) && !(B.contains x)) A k hlt
  have hlt':(k:Int)<(A.length:Int):=by omega
  have w1:=AT (k:=k) (by omega)
  generalize A[k]=x at *;have kh:=kh x;by_cases hx:x=c.id
  ·have q:(x==c.id)=true:=beq_iff_eq.2 hx
   rw[q]at hst;simp only[Bool.not_true,Bool.false_and,Bool.false_eq_true,if_false,List.append_nil]at hst;refine Ab (BZ @s5 @s11 @s12 @s14 @s13 @hlt' @hg @hszA @q @w1) ?_;exact Aj (A.length-(k+1)) (by omega) ⟨Aa,Aa,Aa,rfl,k+1,acc,md,Aa,Aa,by rw[hst];exact hacc,by omega,rfl⟩
  ·have q:(x==c.id)=false:=beq_eq_false_iff_ne.2 hx
   rw[q]at hst;cases hb:B.contains x with
   |true=>
    rw[hb]at kh hst;rw[if_neg (by decide),List.append_nil]at hst
    refine Ab (BZ @s5 @s11 @s12 @s14 @s13 @hlt' @hg @hszA @q @w1) ?_;refine cp kh ?_;refine Ab (A6 @s5 @s11 @s12 @s14 @s13 @w1) ?_;exact Aj (A.length-(k+1)) (by omega) ⟨Aa,Aa,Aa,rfl,k+1,acc,md,Aa,Aa,by rw[hst];exact hacc,by omega,rfl⟩
   | false=>
    rw[hb]at kh hst;rw[show(!false && !false)=true from rfl,if_pos rfl]at hst
    have ki:=ki acc x (by omega)
    have hnx:Eu acc x=((A.take (k+1)).filter (fun x=>!(x==c.id) && !(B.contains x))).foldl Eu []:=by
     rw[hst,List.foldl_append,←hacc];rfl
    generalize Eu acc x=acc' at *;refine Ab (BZ @s5 @s11 @s12 @s14 @s13 @hlt' @hg @hszA @q @w1) ?_;refine cp kh ?_;refine Ab (A8 @s5 @s11 @s12 @s14 @s13 @hg @hszA @hlt') ?_;refine cp ki ?_;refine Ab (A6 @s5 @s11 @s12 @s14 @s13 @w1) ?_;exact Aj (A.length-(k+1)) (by omega) ⟨Aa,Aa,Aa,rfl,k+1,acc',.ro,Aa,Aa,hnx,by omega,rfl⟩
 ·obtain rfl:k=A.length:=by omega
  rw[List.take_length]at hacc;rw[←hacc];have hlt':¬(A.length:Int)<(A.length:Int):=by omega
  refine Ab (A6 @s5 @s11 @s12 @s14 @s13 @hlt') ?_;exact Au
theorem Qe(c:Chn)(n:Nat):(AR c n).length≤c.acts.length:=by
 unfold AR;have h1:=V5 ((Cm c n).accepts.filter fun x=>!(x==c.id) && !((Cm c n).blocks.contains x)) []
 have h2:=List.length_filter_le (fun x:By=>!(x==c.id) && !((Cm c n).blocks.contains x)) (Cm c n).accepts
 have h3:=(HZ c.acts (min n c.acts.length)).a;simp only[List.length_nil]at h1;change(Cm c n).accepts.length≤_ at h3;omega
theorem QE(acts:List Ac.Act)(i:Nat):Bm acts (i+1)=if(acts.getD i Al).kind=16∧(acts.getD i Al).scope=1∧(acts.getD i Al).group=[]∧(acts.getD i Al).epoch=(Bm acts i).2 then(i,(Bm acts i).2+1)else Bm acts i:=rfl
theorem Kn(acts:List Ac.Act):∀n,(0≤(Bm acts n).2∧(Bm acts n).2≤n)∧(Bm acts n).1≤n∧(0<(Bm acts n).2→(Bm acts n).1<n)
 |0=>⟨⟨Int.le_refl _,Int.le_refl _⟩,Nat.le_refl _,fun h=>absurd h (Int.lt_irrefl _)⟩
 |n+1=>by
  have ih:=Kn acts n;rw[QE];split
  ·exact⟨⟨by show 0≤(Bm acts n).2+1;omega,by show(Bm acts n).2+1≤_;omega⟩,by show n≤_;omega,fun _=>Nat.lt_succ_self n⟩
  ·exact⟨by omega,by omega,fun h=>by have :=ih.2.2 h;omega⟩
theorem VU(c:Chn)(n:Nat)(hcl:c.acts.length≤500)(hn:n≤500):AC prog 284 [AG c,.it .i64 (n:Int),.it .i64 1,.st []] [] (.tup [.it .i64 ((Bb c n).1:Nat),.bo (Bb c n).2]) []:=by
 have hsz:=BX c.acts;have hin:=Kn c.acts;have hsu:=QE c.acts;show AC _ _ _ _ (.tup [.it .i64 (((Bm c.acts (min n c.acts.length)).1:Nat):Int),.bo (decide (0<(Bm c.acts (min n c.acts.length)).2))]) _
 refine Ah [] [] func284 ?_;refine run ?_;refine AN (fun m e S=>e 1=.it .i64 (n:Int)∧e 2=.it .i64 1∧e 3=.st []∧e 4=.ptr 0 0 ∧ ∃(i:Nat) (T:Ae),e 12=.it .i64 (i:Int)∧e 10=.it .i64 ((Bm c.acts i).1:Nat)∧e 11=.it .i64 (Bm c.acts i).2∧S=.cells [.st c.id,Bu c.acts,.sl .ro (c.keys.map Bt),.st c.prev,.it .i64 c.gen,.bo c.fork]::T∧i≤min n c.acts.length∧m=min n c.acts.length-i) (min n c.acts.length) ⟨Aa,Aa,Aa,Aa,0,[],Aa,Aa,Aa,rfl,by omega,rfl⟩ ?_
 rintro m e S ⟨s1,s2,s3,s4,i,T,s12,s10,s11,rfl,hi,rfl⟩
 have hT1:∀y:SObj,(T++[y])[T.length]? = some y:=fun y=>by simp
 have hT2:∀y z:SObj,(T++[y]).set T.length z=T++[z]:=fun y z=>by simp
 have hr:=hin i;by_cases hlt:i<min n c.acts.length
 ·have h1:(i:Int)<(n:Int):=by omega
  have h2:(i:Int)<(c.acts.length:Int):=by omega
  have w1:=AT (k:=i) (by omega)
  have hg:c.acts[i]? = some (c.acts.getD i Al):=by rw[List.getD_eq_getElem?_getD,List.getElem?_eq_getElem (by omega)];rfl
  have hs:=hsu i;generalize c.acts.getD i Al=a at *;generalize Bm c.acts i=r at *;obtain⟨r1,r2⟩:=r;simp only at hs hr s10 s11
  by_cases c1:a.kind=16
  rotate_left
  ·have q1:(a.kind==16)=false:=beq_eq_false_iff_ne.2 c1
   rw[if_neg (fun h=>c1 h.1)]at hs
   refine Ab (an @s1 (an @s2 (an @s3 (an @s4 (An @s12 @s10 @s11 @h1 @h2 @hg @hsz @hT1 @hT2 @q1 @w1))))) ?_;exact Aj (min n c.acts.length-(i+1)) (by omega) ⟨Aa,Aa,Aa,Aa,i+1,_,Aa,by rw[hs];exact Aa,by rw[hs];exact Aa,rfl,by omega,rfl⟩
  have q1:(a.kind==16)=true:=beq_iff_eq.2 c1;by_cases c2:a.scope=1
  rotate_left
  ·have q2:(a.scope==1)=false:=beq_eq_false_iff_ne.2 c2
   rw[if_neg (fun h=>c2 h.2.1)]at hs
   refine Ab (an @s1 (an @s2 (an @s3 (an @s4 (an @s12 (An @s10 @s11 @h1 @h2 @hg @hsz @hT1 @hT2 @q1 @q2 @w1)))))) ?_;exact Aj (min n c.acts.length-(i+1)) (by omega) ⟨Aa,Aa,Aa,Aa,i+1,_,Aa,by rw[hs];exact Aa,by rw[hs];exact Aa,rfl,by omega,rfl⟩
  have q2:(a.scope==1)=true:=beq_iff_eq.2 c2;by_cases c3:a.group=[]
  rotate_left
  ·have q3:(a.group==[])=false:=beq_eq_false_iff_ne.2 c3
   rw[if_neg (fun h=>c3 h.2.2.1)]at hs
   refine Ab (an @s1 (an @s2 (an @s3 (an @s4 (an @s12 (an @s10 (An @s11 @h1 @h2 @hg @hsz @hT1 @hT2 @q1 @q2 @q3 @w1))))))) ?_;exact Aj (min n c.acts.length-(i+1)) (by omega) ⟨Aa,Aa,Aa,Aa,i+1,_,Aa,by rw[hs];exact Aa,by rw[hs];exact Aa,rfl,by omega,rfl⟩
  have q3:(a.group==[])=true:=beq_iff_eq.2 c3;by_cases c4:a.epoch=r2
  rotate_left
  ·have q4:(a.epoch==r2)=false:=beq_eq_false_iff_ne.2 c4
   rw[if_neg (fun h=>c4 h.2.2.2)]at hs
   refine Ab (an @s1 (an @s2 (an @s3 (an @s4 (an @s12 (an @s10 (an @s11 (An @h1 @h2 @hg @hsz @hT1 @hT2 @q1 @q2 @q3 @q4 @w1)))))))) ?_;exact Aj (min n c.acts.length-(i+1)) (by omega) ⟨Aa,Aa,Aa,Aa,i+1,_,Aa,by rw[hs];exact Aa,by rw[hs];exact Aa,rfl,by omega,rfl⟩
  have q4:(a.epoch==r2)=true:=beq_iff_eq.2 c4;have w2:IntKind.i64.wrap (r2+1)=r2+1:=wrap64 (by omega) (by omega)
  rw[if_pos ⟨c1,c2,c3,c4⟩]at hs;refine Ab (an @s1 (an @s2 (an @s3 (an @s4 (an @s12 (an @s10 (an @s11 (an @h1 (An @h2 @hg @hsz @hT1 @hT2 @q1 @q2 @q3 @q4 @w1 @w2))))))))) ?_;exact Aj (min n c.acts.length-(i+1)) (by omega) ⟨Aa,Aa,Aa,Aa,i+1,_,Aa,by rw[hs];exact Aa,by rw[hs];exact Aa,rfl,by omega,rfl⟩
 ·obtain rfl:i=min n c.acts.length:=by omega
  generalize Bm c.acts (min n c.acts.length)=r at *;have hd:decide (r.2>0)=decide (0<r.2):=rfl;by_cases hle:n≤c.acts.length
  ·have hmn:min n c.acts.length=n:=by omega
   rw[hmn]at s12;have h1:¬(n:Int)<(n:Int):=by omega
   refine Ab (A9 @s1 @s2 @s3 @s4 @s12 @s10 @s11 @h1 @hd) ?_;exact Ad
  ·have hmn:min n c.acts.length=c.acts.length:=by omega
   rw[hmn]at s12;have h1:(c.acts.length:Int)<(n:Int):=by omega
   have h2:¬(c.acts.length:Int)<(c.acts.length:Int):=by omega
   refine Ab (BZ @s1 @s2 @s3 @s4 @s12 @s10 @s11 @h1 @h2 @hd) ?_;exact Ad
theorem QU(c:Chn)(n:Nat)(hcl:c.acts.length≤500)(hn:n≤500):AC prog 203 [AG c,.it .i64 (n:Int),.it .i64 1,.st []] [] (.tup [.it .i64 (AS c n).1,Av (AS c n).2.1,.bo (AS c n).2.2]) []:=by
 have kg:=VU c n hcl hn;have hin:=Kn c.acts (min n c.acts.length);have hlt:(Bb c n).2=true→(Bb c n).1<c.acts.length:=fun h=>by
  have h0:0<(Bm c.acts (min n c.acts.length)).2:=of_decide_eq_true h;have :=hin.2.2 h0;show(Bm c.acts (min n c.acts.length)).1<_
  omega
 unfold AS;generalize Bb c n=r at *;obtain⟨i,b⟩:=r;have hsz:=BX c.acts;simp only at hlt ⊢
 cases b with
 |false=>
  rw[if_neg (by decide)]
  show AC _ _ _ _ (.tup [.it .i64 0,.sl .ro [],.bo false]) _
  refine Ah [284] [] func203 ?_;refine run ?_;refine cp kg ?_;refine run ?_;exact Au
 |true=>
  rw[if_pos rfl];have hi:=hlt rfl;have hg:c.acts[i]? = some (c.acts.getD i Al):=by rw[List.getD_eq_getElem?_getD,List.getElem?_eq_getElem (by omega)];rfl
  have hi':(i:Int)<(c.acts.length:Int):=by omega
  generalize c.acts.getD i Al=a at *;show AC _ _ _ _ (.tup [.it .i64 a.epoch,Av a.to,.bo true]) _
  refine Ah [284] [] func203 ?_;refine run ?_;refine cp kg ?_;refine Ab (A3 @hg @hsz @hi') ?_;exact Ad
theorem WO(c:Chn)(n:Nat)(hr:Bg c.acts):0≤(AS c n).1∧(AS c n).1≤1073741824:=by
 unfold AS;split
 ·rename_i h
  show 0≤(c.acts.getD (Bb c n).1 Al).epoch∧_
  by_cases hi:(Bb c n).1<c.acts.length
  ·rw[List.getD_eq_getElem?_getD,List.getElem?_eq_getElem hi]
   exact(Cp (hr _ (List.getElem_mem hi))).epoch
  ·rw[List.getD_eq_getElem?_getD,List.getElem?_eq_none (by omega)]
   exact⟨by decide,by decide⟩
 ·exact⟨Int.le_refl _,by decide⟩
theorem ZbP(a b:List By)(ha:a.length≤1000000)(hb:b.length≤1000000):AC prog 319 [Av a,Av b] [] (.bo (decide (a=b))) []:=by
 have hsa:=D8 a;have hsb:=D8 b;obtain⟨q,hq⟩:∃q,decide (a=b)=q:=⟨_,rfl⟩
 rw[hq];refine Ah [] [] func319 ?_;by_cases hl:a.length=b.length
 rotate_left
 ·obtain rfl:q=false:=by rw[←hq];exact decide_eq_false (fun e=>hl (by rw[e]))
  have n1:((a.length:Int) !=(b.length:Int))=true:=C6 (by omega)
  refine Ab @n1 ?_;exact Ad
 have n1:((a.length:Int) !=(b.length:Int))=false:=Df (by omega)
 refine Ab @n1 ?_;refine AN (fun m e S=>e 0=Av a∧e 1=Av b∧S=[] ∧ ∃k:Nat,e 5=.it .i64 (k:Int)∧(∀j (h1:j<a.length) (h2:j<b.length),j<k→a[j]=b[j])∧k≤a.length∧m=a.length-k) a.length ⟨Aa,Aa,rfl,0,Aa,fun j _ _ h=>absurd h (Nat.not_lt_zero _),by omega,rfl⟩ ?_
 rintro m e S ⟨s0,s1,rfl,k,s5,hall,hk,rfl⟩
 by_cases hlt:k<a.length
 ·have hga:a[k]? = some a[k]:=List.getElem?_eq_getElem hlt
  have hgb:b[k]? = some (b[k]'(by omega)):=List.getElem?_eq_getElem (by omega)
  have hlt':(k:Int)<(a.length:Int):=by omega
  have hltb:(k:Int)<(b.length:Int):=by omega
  have w1:=AT (k:=k) (by omega)
  have hkb:k<b.length:=by omega
  by_cases he:a[k]=b[k]
  ·have qe:(a[k]==b[k])=true:=by rw[he];exact beq_self_eq_true _
   refine Ab (An @s0 @s1 @s5 @hga @hgb @hsa @hsb @hlt' @hltb @qe @w1) ?_;exact Aj (a.length-(k+1)) (by omega) ⟨Aa,Aa,rfl,k+1,Aa,(fun j h1 h2 hj=>by
    by_cases ej:j=k
    ·subst ej;exact he
    ·exact hall j h1 h2 (by omega)),by omega,rfl⟩
  ·have qe:(a[k]==b[k])=false:=beq_eq_false_iff_ne.2 he
   obtain rfl:q=false:=by rw[←hq];exact decide_eq_false (fun e=>he (by subst e;rfl))
   refine Ab (BZ @s0 @s1 @s5 @hga @hgb @hsa @hsb @hlt' @hltb @qe) ?_;exact Ad
 ·obtain rfl:k=a.length:=by omega
  obtain rfl:q=true:=by rw[←hq];exact decide_eq_true (List.ext_getElem hl fun j h1 h2=>hall j h1 h2 h1)
  have hlt':¬(a.length:Int)<(a.length:Int):=by omega
  refine Ab (A4 @s0 @s1 @s5 @hlt') ?_;exact Ad
theorem ZfB(c:Chn)(n:Nat)(hcl:c.acts.length≤400)(hn:n≤500)(hr:Bg c.acts)(hto:(AS c n).2.1.length≤1000000):AC prog 285 [AG c,.it .i64 (n:Int),.it .i64 1,.st [],.sl .ro []] [] (.bo (Gr c n)) []:=by
 have ke:=QU c n (by omega) hn
 have km:=Qf c n hcl hn hr;have hml:=Qe c n;have ks:=ZbP (AS c n).2.1 (AR c n) hto (by omega)
 unfold Gr;generalize AS c n=r at *;generalize AR c n=mb at *;obtain⟨ee,l,b⟩:=r;simp only at ks hto ⊢
 generalize decide (l=mb)=sm at *;cases b with
 |false=>
  show AC _ _ _ _ (.bo true) _
  refine Ah [203,125,319] [] func285 ?_;refine run ?_;refine cp ke ?_;refine run ?_;exact Ad
 |true=>
  show AC _ _ _ _ (.bo (!sm)) _
  refine Ah [203,125,319] [] func285 ?_;refine run ?_;refine cp ke ?_;refine run ?_;refine cp km ?_;refine run ?_;refine cp ks ?_;refine run ?_;exact Ad
end Pe
end
end Go.Proofs.YtipfggegddlgdaaGreatDoor
