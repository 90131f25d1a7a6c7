import Derived.Test.YtipfggegddlgdaaGreatDoorKw4
import Derived.Test.YtipfggegddlgdaaGreatDoorKw12
import Derived.Test.YtipfggegddlgdaaGreatDoorChecked
import Derived.WalkKit
import Derived.ProofKit
import Derived.WalkSpells
import Derived.Lib.Hide
import Derived.WalkLawsBesides
import Derived.BigRegion
import Derived.RegionTactic
import Derived.BigQuiet
import Derived.Deep.RegionLaw
set_option linter.unusedSectionVars false
set_option linter.unusedVariables false
set_option linter.unusedSimpArgs false
namespace Go.Proofs.YtipfggegddlgdaaGreatDoor
section
section
open Go.RowKit Sm
set_option maxRecDepth 100000
theorem Zcq{k:IntKind}{a b:Int}(h:a=b):Ending.returned (.int k a)=.returned (.int k b):=by rw[h]
theorem Na{k:IntKind}{a b:Int}(h:a=b):Value.int k a=.int k b:=by rw[h]
def Gf(w:World)(b:Nat)(t:TypeId)(n:Nat)(ws:List (BitVec 32)):Prop:=w.rowIs b t n (fun j=>Ag (ws.getD j 0))
theorem Ty{w:World}{b:Nat}{t:TypeId}{n:Nat}{ws:List (BitVec 32)}(h:Gf w b t n ws)(x:BitVec 32):Gf (w.setCell ⟨b,ws.length,none⟩ (Ag x)) b t n (ws++[x]):=by
 refine World.rowIs.congr (World.rowIs.set h ws.length (Ag x)) fun i _=>?_
 rw[Zfu];split<;>rfl
theorem Tx{w:World}{b:Nat}(n:Nat)(cs:Array Value)(t:TypeId)(hb:b=w.heap.size)(h:cs=(List.replicate n (Value.int .u32 0)).toArray):Gf (w.alloc (.cells cs t)) b t n []:=by
 subst h hb;have :=World.rowIs_alloc w (List.replicate n (Value.int .u32 0)).toArray t (fun _=>Ag 0) (fun i hi=>by
  simp at hi
  simp[List.getElem?_replicate,hi]
  rfl)
 simpa[Gf] using this
theorem Pb(x:BitVec 32)(n:Int)(w:World)(h0:0<n)(h:n<32):
  Calls Tryz.prog 173 #[Ag x,.int .i64 n] w fun e w'=>e=.returned (Ag (Dk x n.toNat))∧w=w':=by
 have e:=Zce x n h0 h;have E:=Veil.mk e;clear e;go_enter Tryz.func173,Tryz.ntmps173
 go_wp2
 go_ret
 rw[←E.out];exact⟨rfl,rfl⟩
theorem Zcc{w:World}{b:Nat}{t:TypeId}{n:Nat}(h:Gf w b t n []):Gf w b t n (List.replicate n 0):=
 World.rowIs.congr h (fun i hi=>by simp[List.getElem?_replicate,hi])
theorem Tz{w:World}{b:Nat}{t:TypeId}{n:Nat}{ws:List (BitVec 32)}(h:Gf w b t n ws)(hl:ws.length=n):w.heap[b]? = some (.cells (ws.map Ag).toArray t (0,0)):=by
 obtain⟨cs,hc,hs,he⟩:=h;rw[hc]
 have:cs=(ws.map Ag).toArray:=by
  apply Array.ext
  ·simp[hs,hl]
  ·intro i h1 h2
   have :=he i (by omega)
   rw[Array.getElem?_eq_getElem h1]at this
   injection this with this
   rw[this];simp at h2
   simp[List.getElem?_eq_getElem h2]
 rw[this]
theorem Ob:(Tryz.prog.info? 206).map (·.size)=some 64:=by kernel_rfl
theorem G9:(Tryz.prog.info? 143).map (·.size)=some 8:=by kernel_rfl
set_option maxRecDepth 100000 in
set_option maxHeartbeats 4000000 in
theorem ZbL(s:ByteArray)(w:World)(hs:s.size=64):
  Calls Tryz.prog 172 #[.string s] w fun e w'=>e=.returned (.agg ((Dj s.data.toList).map Ag).toArray)∧Below w.heap.size w w':=by
 have Hs:=Veil.mk hs;clear hs;go_enter Tryz.func172,Tryz.ntmps172
 go_wp2
 go_loopw [4,5,11] (fun _ _ i wr=>∃k:Nat,k≤16∧i=.int .i64 k∧Gf wr w.heap.size 206 64 []∧Gf wr (w.heap.size+1) 206 64 (F0 s.data.toList k)∧Below w.heap.size w wr) (fun _ _ i _=>16-(intOf i).toNat)
 case atStart=>
  refine⟨0,by omega,rfl,World.rowIs.alloc (Tx 64 _ _ rfl rfl) _,?_,?_⟩
  ·exact Tx 64 _ _ (by simp) rfl
  ·exact((Below.refl _ _).alloc (Nat.le_refl _) _).alloc (by simp) _
 case round=>
  obtain⟨k,hk,rfl,h0,h1,hb⟩:=hrel;by_cases hlt:k<16
  ·have hs:=Hs.out
   have a1:4*k+4≤s.size:=by omega
   clear hs;have H0:=Veil.mk h0;clear h0;have H1:=Veil.mk h1;have c1:=h1.cell (i:=k) (by omega)
   have f1:=h1.frozen k;clear h1;go_wp2
   generalize hx:s.extract (4*k) (4*k+4)=x;have ht:4≤x.size:=by subst hx;rw[ByteArray.size_extract];omega
   have key:∀i (h':i<x.size) (_:i<4),x[i]=s.data.toList.getD (4*k+i) 0:=by
    subst hx;intro i h' h;exact ZfY s _ _ i (by omega) a1 h'
   have Key:=Veil.mk key;clear key hx;have i0:0<x.size:=by omega
   have i1:(1:Int)<x.size:=by omega
   have i2:(2:Int)<x.size:=by omega
   have i3:(3:Int)<x.size:=by omega
   go_region
   go_wp2
   go_roundw
   case rel=>
    have e:=Ty H1.out (KP x[0] x[1] x[2] x[3]);rw[QN]at e;refine⟨k+1,by omega,by go_num,World.rowIs.setOther H0.out (by simp) _,?_,(hb.setCell (by simp) _).drew⟩
    rw[Wq,M5];rw[Key.out 0 (by omega) (by omega),Key.out 1 (by omega) (by omega),Key.out 2 (by omega) (by omega),Key.out 3 (by omega) (by omega)]at e ⊢
    exact e
   case measure=>simp[intOf];omega
  ·have hk16:16≤k:=by omega
   clear hlt;go_wp2
   go_loopw [6,7,8] (fun i _ _ wr=>∃m:Nat,16≤m∧m≤64∧i=.int .i64 m∧Gf wr w.heap.size 206 64 []∧Gf wr (w.heap.size+1) 206 64 (B1 s.data.toList (m-16))∧Below w.heap.size w wr) (fun i _ _ _=>64-(intOf i).toNat)
   case atStart=>
    obtain rfl:k=16:=by omega
    exact⟨16,by omega,by omega,rfl,h0,h1,hb⟩
   case round=>
    obtain⟨m,hm0,hm,rfl,h0,h1,hb⟩:=hrel;by_cases hlt:m<64
    ·have H0:=Veil.mk h0;clear h0
     have H1:=Veil.mk h1;have c15:=h1.cell (i:=m-15) (by omega)
     have c2:=h1.cell (i:=m-2) (by omega)
     have c7:=h1.cell (i:=m-7) (by omega)
     have c16:=h1.cell (i:=m-16) (by omega)
     have c0:=h1.cell (i:=m) (by omega)
     have f0:=h1.frozen m;clear h1;go_wp2
     go_quiet (fail)
     go_wp2_with (go_at_call 173;refine(Pb _ _ _ (by omega) (by omega)).mono ?_;rintro e w' ⟨rfl,rfl⟩)
     go_region
     go_wp2
     go_roundw
     case rel=>
      have e:=Ty H1.out (NX (B1 s.data.toList (m-16)) m);rw[NF,show 16+(m-16)=m from by omega]at e
      refine⟨m+1,by omega,by omega,by go_num,World.rowIs.setOther H0.out (by simp) _,?_,(Ir (hb.setCell (by simp) _) _)⟩
      rw[show m+1-16=m-16+1 from by omega,B1,show 16+(m-16)=m from by omega]
      exact e
     case measure=>simp[intOf];omega
    ·have hm64:64≤m:=by omega
     have e:Dj s.data.toList=B1 s.data.toList (m-16):=by rw[Dj,show m-16=48 from by omega]
     have E:=Veil.mk e;clear e;have hl:(B1 s.data.toList (m-16)).length=64:=by rw[NF];omega
     generalize hws:B1 s.data.toList (m-16)=ws at h1 hl;have Ews:=Veil.mk hws;clear hws hlt;have hr0:=Tz (Zcc h0) (by simp)
     have hr1:=Tz h1 hl;have Hr1:=Veil.mk hr1;have Hr0:=Veil.mk hr0;have Hl:=Veil.mk hl;clear h0 h1 hr0 hr1 hl;have Hc:Veil (∀j u,(ws.map Ag)[j]? = some u→(ws.map Ag).toArray[0+j]? = some u):=⟨fun j u hu=>by simpa using hu⟩
     have Hf:Veil ((ws.map Ag).length=(List.map Ag (List.replicate 64 0)).toArray.size):=⟨by simp[Hl.out]⟩
     have Ho:Veil (∀u∈ws.map Ag,u.oneCell'=true):=⟨P4 _⟩
     have Hi:Veil (some 64=some (ws.map Ag).length):=⟨by rw[List.length_map,Hl.out]⟩
     go_wp2_with (first
      |(refine U4 rfl _ (.tmp 3) rfl (w.heap.size+1) 0 rfl Hr1.out Tryz.underlying206 rfl (ws.map Ag) (Ob.trans Hi.out) Hc.out ?_)
      |(refine Lr rfl _ (.tmp 2) (.tmp 85) rfl w.heap.size rfl (ws.map Ag) rfl Hr0.out (Ob.trans Hi.out) Hf.out Ho.out ?_))
     refine bodyPost_ret (results_cell_row rfl _ _ w.heap.size _ _ _ _ rfl (setRow_heap wr w.heap.size _ _ _ _ Hr0.out) Tryz.underlying206 rfl (Ob.trans (by rw[Hi.out];simp))) rfl ?_
     exact⟨by rw[E.out,Ews.out],OM hb (Nat.le_refl _) _⟩
def Ds(w:World):Prop:=(∀i,i<64→w.cell? ⟨1,i,none⟩=some (Ag (EZ.getD i 0)))∧(∀i,i<8→w.cell? ⟨0,i,none⟩=some (Ag (BS.list.getD i 0)))
theorem Ds.keep{w w':World}(h:Ds w)(hk:∀b,b<w.heap.size→w'.heap[b]? = w.heap[b]?):Ds w':=by
 refine⟨fun i hi=>?_,fun i hi=>?_⟩
 ·rw[World.cell?_of_block (hk _ (World.block_lt_of_cell? w _ (h.1 i hi)))]
  exact h.1 i hi
 ·rw[World.cell?_of_block (hk _ (World.block_lt_of_cell? w _ (h.2 i hi)))]
  exact h.2 i hi
theorem Ds.below{w w':World}(h:Ds w){B:Nat}(hb:Below B w w')(hB:w.heap.size≤B):Ds w':=h.keep fun b hlt=>hb.block b (by omega)
theorem Ds.drew{w:World}(h:Ds w):Ds w.drew:=h
theorem Ds.alloc{w:World}(h:Ds w)(o:Obj):Ds (w.alloc o):=h.keep fun b hb=>heap_alloc_old w o hb
set_option maxRecDepth 100000 in
set_option maxHeartbeats 4000000 in
theorem UN(st:S8)(s:ByteArray)(w:World)(hs:s.size=64)(hT:Ds w):
  Calls Tryz.prog 94 #[.agg st.cells.toArray,.string s] w fun e w'=>e=.returned (.agg (Gk st s.data.toList).cells.toArray)∧Below w.heap.size w w':=by
 have Hs:=Veil.mk hs;clear hs;have HT:=Veil.mk hT;clear hT;obtain⟨va,vb,vc,vd,ve,vf,vg,vh⟩:=st;simp only[S8.cells];go_enter Tryz.func94,Tryz.ntmps94
 go_wp2_with (first
  |(go_at_call 172;refine(ZbL s _ Hs.out).mono ?_;rintro e w1 ⟨rfl,hb1⟩)
  |(refine SU _ rfl _ (.tmp 5) (.tmp 18) rfl rfl ((Dj s.data.toList).map Ag) rfl ?_ ?_ (P4 _) ?_))
 ·exact Ob.trans (by rw[List.length_map,J4])
 ·rw[List.length_map,J4];rfl
 have hbs:Below w.heap.size w w1:=(((Below.refl _ _).alloc (Nat.le_refl _) _).alloc (by simp) _).trans (hb1.mono (by simp;omega))
 have hsz:w.heap.size+2≤w1.heap.size:=by have :=hb1.size;simp at this;omega
 have g0:w1.heap[w.heap.size]? = some (.cells #[Ag va,Ag vb,Ag vc,Ag vd,Ag ve,Ag vf,Ag vg,Ag vh] 143 (0,0)):=
  (hb1.block _ (by simp;omega)).trans (heap_alloc2_old w _ _)
 have g1:w1.heap[w.heap.size+1]? = some (.cells #[.int .u32 0,.int .u32 0,.int .u32 0,.int .u32 0,.int .u32 0,.int .u32 0,.int .u32 0,.int .u32 0] 143 (0,0)):=
  (hb1.block _ (by simp)).trans (heap_alloc2_new w _ _)
 have hT1:Ds w1:=HT.out.below hbs (Nat.le_refl _);clear hb1;have k0:(w1.alloc (.cells ((Dj s.data.toList).map Ag).toArray 206)).heap[w.heap.size]? = _:=(heap_alloc_old w1 _ (by omega)).trans g0
 have k1:(w1.alloc (.cells ((Dj s.data.toList).map Ag).toArray 206)).heap[w.heap.size+1]? = _:=(heap_alloc_old w1 _ (by omega)).trans g1
 have k2:=heap_alloc_new w1 (.cells ((Dj s.data.toList).map Ag).toArray 206);have kT:=hT1.alloc (.cells ((Dj s.data.toList).map Ag).toArray 206);have kb:=hbs.alloc hbs.size (.cells ((Dj s.data.toList).map Ag).toArray 206);clear g0 g1 hT1 hbs;generalize w1.alloc (.cells ((Dj s.data.toList).map Ag).toArray 206)=w2 at k0 k1 k2 kT kb ⊢;generalize hW:w1.heap.size=bw at k2 hsz ⊢;clear hW;have x0:=cell_of_row w2 w.heap.size 0 _ _ _ k0;have x1:=cell_of_row w2 w.heap.size 1 _ _ _ k0;have x2:=cell_of_row w2 w.heap.size 2 _ _ _ k0;have x3:=cell_of_row w2 w.heap.size 3 _ _ _ k0;have x4:=cell_of_row w2 w.heap.size 4 _ _ _ k0;have x5:=cell_of_row w2 w.heap.size 5 _ _ _ k0;have x6:=cell_of_row w2 w.heap.size 6 _ _ _ k0;have x7:=cell_of_row w2 w.heap.size 7 _ _ _ k0;have K0:=Veil.mk k0;have K1:=Veil.mk k1;have K2:=Veil.mk k2;have KT:=Veil.mk kT;have Kb:=Veil.mk kb;clear k0 k1 k2 kT kb;go_wp2
 go_quiet (fail)
 go_wp2
 go_quiet (fail)
 clear x0 x1 x2 x3 x4 x5 x6 x7;go_wp2
 go_loopw [6,7,8,9,10,11,12,13,14,15,16,35] (fun a b c d e f g h _ _ _ i wr=>∃n r:Nat,n≤64∧i=.int .i64 n∧wr=w2.drewN r ∧ ∃st:S8,st=IY s.data.toList ⟨va,vb,vc,vd,ve,vf,vg,vh⟩ n∧a=Ag st.a∧b=Ag st.b∧c=Ag st.c∧d=Ag st.d∧e=Ag st.e∧f=Ag st.f∧g=Ag st.g∧h=Ag st.h) (fun _ _ _ _ _ _ _ _ _ _ _ i _=>64-(intOf i).toNat)
 case atStart=>exact⟨0,_,by omega,rfl,World.drewN_drewN _ _ _,_,rfl,rfl,rfl,rfl,rfl,rfl,rfl,rfl,rfl⟩
 case round=>
  obtain⟨n,r,hn,rfl,rfl,⟨sa,sb,sc,sd,se,sf,sg,sh⟩,hst,rfl,rfl,rfl,rfl,rfl,rfl,rfl,rfl⟩:=hrel;have Hst:=Veil.mk hst;clear hst;by_cases hlt:n<64
  ·have cK:(w2.drewN r).cell? ⟨1,n,none⟩=some (Ag (EZ.getD n 0)):=KT.out.1 n hlt
   have cW:(w2.drewN r).cell? ⟨bw,n,none⟩=some (Ag ((Dj s.data.toList).getD n 0)):=by
    show w2.cell? _=_
    rw[cell_of_row w2 bw n _ _ _ K2.out];simp[List.getD_eq_getElem?_getD,List.getElem?_eq_getElem (show n<(Dj s.data.toList).length from by rw[J4];exact hlt)]
   generalize hk:EZ.getD n 0=kn at cK;generalize hx:(Dj s.data.toList).getD n 0=xn at cW;have Hk:=Veil.mk hk;clear hk;have Hx:=Veil.mk hx;clear hx;generalize hwr:w2.drewN r=wr at cK cW ⊢;have Hwr:=Veil.mk hwr;clear hwr;go_wp2
   go_quiet ((go_at_call 173;exact Calls.quiet_of_same ((Pb _ _ _ (by omega) (by omega)).mono fun _ _ h=>⟨h.1,h.2.symm⟩)))
   go_wp2_with (go_at_call 173;refine(Pb _ _ _ (by omega) (by omega)).mono ?_;rintro e w' ⟨rfl,rfl⟩)
   go_roundw
   case rel=>
    refine⟨n+1,_,by omega,by go_num,by rw[←Hwr.out];exact World.drewN_drewN _ _ _,J9 kn xn ⟨sa,sb,sc,sd,se,sf,sg,sh⟩,?_,?_⟩
    ·rw[IY,←Hst.out,Hk.out,Hx.out]
    ·exact⟨rfl,rfl,rfl,rfl,rfl,rfl,rfl,rfl⟩
   case measure=>simp[intOf];omega
  ·have hn64:64≤n:=by omega
   have hm:Gk ⟨va,vb,vc,vd,ve,vf,vg,vh⟩ s.data.toList=S8.add ⟨va,vb,vc,vd,ve,vf,vg,vh⟩ ⟨sa,sb,sc,sd,se,sf,sg,sh⟩:=by
    obtain rfl:n=64:=by omega
    rw[Gk,←Hst.out]
   have Hm:=Veil.mk hm;clear hm hlt;have k0:(w2.drewN r).heap[w.heap.size]? = _:=K0.out;have k1:(w2.drewN r).heap[w.heap.size+1]? = _:=K1.out;have kb:=Ir Kb.out r;generalize w2.drewN r=wr at k0 k1 kb ⊢;have x0:=cell_of_row wr w.heap.size 0 _ _ _ k0;have x1:=cell_of_row wr w.heap.size 1 _ _ _ k0;have x2:=cell_of_row wr w.heap.size 2 _ _ _ k0;have x3:=cell_of_row wr w.heap.size 3 _ _ _ k0;have x4:=cell_of_row wr w.heap.size 4 _ _ _ k0;have x5:=cell_of_row wr w.heap.size 5 _ _ _ k0;have x6:=cell_of_row wr w.heap.size 6 _ _ _ k0;have x7:=cell_of_row wr w.heap.size 7 _ _ _ k0;have K1:=Veil.mk k1;have Kb:=Veil.mk kb;clear k0 k1 kb;have Hi:Veil (some 8=some [Ag (va+sa),Ag (vb+sb),Ag (vc+sc),Ag (vd+sd),Ag (ve+se),Ag (vf+sf),Ag (vg+sg),Ag (vh+sh)].length):=⟨rfl⟩;go_wp2_with (refine Lr rfl _ (.tmp 4) (.tmp 130) rfl (w.heap.size+1) rfl [Ag (va+sa),Ag (vb+sb),Ag (vc+sc),Ag (vd+sd),Ag (ve+se),Ag (vf+sf),Ag (vg+sg),Ag (vh+sh)] rfl K1.out (G9.trans Hi.out) rfl (by simp[Value.oneCell',Ag]) ?_)
   refine bodyPost_ret (results_cell_row rfl _ _ (w.heap.size+1) _ _ _ _ rfl (setRow_heap wr (w.heap.size+1) _ _ _ _ K1.out) Tryz.underlying143 rfl (G9.trans Hi.out)) rfl ?_
   exact⟨by rw[Hm.out];rfl,OM Kb.out (by omega) _⟩
theorem GP:FL Tryz.prog 133 5 1 1:=FL.mk' (z:=.int .u8 0) Tryz.underlying133 (by kernel_rfl) rfl (by omega)
def lenOf:Value→Nat|.slice _ n _=>n|_=>0
set_option maxHeartbeats 1000000 in
theorem Zgd(s:ByteArray)(n:Int)(w:World)(hs:s.size≤64):
  Calls Tryz.prog 95 #[.string s,.int .i64 n] w fun e w'=>e=.returned (.string ⟨(ending s.data.toList n).toArray⟩)∧Below w.heap.size w w':=by
 have hm:s.size≤maxLen:=by unfold maxLen;omega
 go_enter Tryz.func95,Tryz.ntmps95
 go_wp2_with (first
  |(refine XR w rfl _ _ (.tmp 8) rfl 5 s rfl Tryz.underlying9 Tryz.underlying133 Tryz.underlying5 hm (base:=w.heap.size) (Nat.le_refl _) ?_;intro v0 w0 own0 gr0 hx;clear hx)
  |(at_builtin;refine Iu w0 rfl _ _ _ rfl GP [.int .u8 128] own0 rfl rfl ?_ ?_ ?_ ?_ ?_))
 ·exact G6 rfl
 ·simp;omega
 ·simp;omega
 ·exact gr0.size
 intro v1 w1 own1 gr1;have hb1:Below w.heap.size w w1:=Gu ((Below.refl _ _).grown gr0 (Nat.le_refl _) (fun k hk=>by cases hk)) gr1 own0 (Nat.le_refl _) gr0.size
 have own1':Ap w1 w.heap.size 5 1 v1 ((C4 s.data.toList 0).map w8):=by
  rw[show((C4 s.data.toList 0).map w8)=s.data.toList.map w8++[.int .u8 128]from by simp[C4];rfl]
  exact own1
 clear own0 gr0 gr1 own1;have hl:s.data.toList.length=s.size:=by simp
 generalize hs0:s.data.toList=l at own1' hl ⊢;have Hl:=Veil.mk hl;have Hs0:=Veil.mk hs0;clear hl hs0;go_wp2
 go_loopw [5] (fun v wr=>∃(N z:Nat) (A:Option Addr) (c:Nat),v=.slice A N c∧Veil (N=l.length+1+z)∧z≤BP (l.length+1)∧Ap wr w.heap.size 5 1 (.slice A N c) ((C4 l z).map w8)∧Below w.heap.size w wr) (fun v _=>l.length+1+BP (l.length+1)-lenOf v)
 case atStart=>
  obtain⟨A,c,rfl⟩:=own1'.len1;exact⟨_,0,A,c,rfl,⟨by rw[List.length_map,F1]⟩,Nat.zero_le _,own1',hb1⟩
 case round=>
  obtain⟨N,z,A,c,rfl,HN,hz,hown,hb⟩:=hrel;have hzl:=O0 (l.length+1);have hNs:N≤200:=by have :=HN.out;have :=Hl.out;omega
  have hmod:((N:Int) % 64 !=56)=decide (z<BP (l.length+1)):=by
   have h1:=O1 (l.length+1);have h2:=RR (l.length+1) z;rw[HN.out];by_cases hlt:z<BP (l.length+1)
   ·have :=h2 hlt
    simp only[hlt,decide_true,bne_iff_ne];omega
   ·obtain rfl:z=BP (l.length+1):=by omega
    simp only[hlt,decide_false,bne_eq_false_iff_eq];omega
  have hle:=hb.size;by_cases hlt:z<BP (l.length+1)
  ·have ht:((N:Int) % 64 !=56)=true:=by rw[hmod];simpa using hlt
   clear hmod;go_wp2_with (at_builtin;refine Iu wr rfl _ _ _ rfl GP [.int .u8 0] hown rfl rfl ?_ ?_ ?_ hle ?_;rotate_left 3;intro v' w' own' gr')
   rotate_left 1
   ·exact G6 rfl
   ·rw[List.length_map,F1,←HN.out];simp;omega
   ·rw[List.length_map,F1,←HN.out];simp;omega
   have hb':=Gu hb gr' hown (Nat.le_refl _) hle;have own2:Ap w' w.heap.size 5 1 v' ((C4 l (z+1)).map w8):=by rw[WR,List.map_append];exact own'
   clear own' gr' hown hb;go_wp2
   go_roundw
   obtain⟨A',c',rfl⟩:=own2.len1;case rel=>exact⟨_,z+1,A',c',rfl,⟨by rw[List.length_map,F1]⟩,by omega,own2,hb'⟩
   case measure=>
    obtain⟨A',c',rfl⟩:=own2.len1;simp only[lenOf,List.length_map,F1];have :=HN.out;omega
  ·have ht:((N:Int) % 64 !=56)=false:=by rw[hmod];simpa using hlt
   obtain rfl:z=BP (l.length+1):=by omega
   clear hmod;go_wp2
   go_loopw [5,7] (fun v i wr=>∃(M j:Nat) (A:Option Addr) (c:Nat),v=.slice A M c∧j≤8∧i=.int .i64 (56-8*(j:Int))∧Ap wr w.heap.size 5 1 (.slice A M c) ((C4 l (BP (l.length+1))++EU (BitVec.ofInt 64 n*8#64) j).map w8)∧Below w.heap.size w wr) (fun _ i _=>(intOf i+8).toNat)
   case atStart=>exact⟨N,0,A,c,rfl,by omega,rfl,by simpa[EU] using hown,hb⟩
   case round=>
    obtain⟨M,j,A',c',rfl,hj,rfl,hown,hb⟩:=hrel;have hle:=hb.size;have hlen:(C4 l (BP (l.length+1))++EU (BitVec.ofInt 64 n*8#64) j).length≤200:=by
     rw[List.length_append,F1]
     have:(EU (BitVec.ofInt 64 n*8#64) j).length≤8:=by simp[EU,MB];omega
     have :=Hl.out;omega
    by_cases hlt:j<8
    ·have hge:(0:Int)≤56-8*(j:Int):=by omega
     go_wp2_with (at_builtin;refine Iu wr rfl _ _ _ rfl GP [_] hown rfl rfl ?_ ?_ ?_ hle ?_;rotate_left 3;intro v' w' own' gr')
     rotate_left 1
     ·exact G6 rfl
     iterate 2
      ·rw[List.length_map];simp only[List.length_singleton];omega
     have hb':=Gu hb gr' hown (Nat.le_refl _) hle;have own2:Ap w' w.heap.size 5 1 v' ((C4 l (BP (l.length+1))++EU (BitVec.ofInt 64 n*8#64) (j+1)).map w8):=by
      rw[Yk _ _ hlt,←List.append_assoc,List.map_append];exact own'
     clear own' gr' hown hb;obtain⟨A2,c2,rfl⟩:=own2.len1;go_wp2
     go_roundw
     case rel=>exact⟨_,j+1,A2,c2,rfl,by omega,by go_num,own2,hb'⟩
     case measure=>simp[intOf];omega
    ·obtain rfl:j=8:=by omega
     have hc:=Nl (P:=Tryz.prog) wr 133 9 5 Tryz.underlying133 Tryz.underlying5 Tryz.underlying9 hown.rd;go_wp2
     go_ret
     exact⟨by rw[Hs0.out];rfl,hb⟩
theorem Ze5(st:S8)(j:Nat)(hj:j<8):∀W:World,(Instr.index 143 (.agg st.cells.toArray) (.int .i64 (j:Int))).run Tryz.prog W=.ok (Ag (st.list.getD j 0)) W:=by
 intro W;rcases j with _|_|_|_|_|_|_|_|j
 all_goals first|omega|kernel_rfl
theorem Vd{w w1:World}{g:Nat}{o:Obj}(hb:Below w.drew.heap.size w.drew w1)(hlt:g<w.heap.size)(h:w.heap[g]? = some o):w1.heap[g]? = some o:=(hb.block g hlt).trans h
set_option maxRecDepth 100000 in
set_option maxHeartbeats 400000 in
theorem Zbz(s:ByteArray)(w:World)(hs:s.size≤9223372036854775807)(hT:Ds w):
  Calls Tryz.prog 46 #[.string s] w fun e w'=>e=.returned (.string ⟨(sha s.data.toList).toArray⟩)∧Below w.heap.size w w':=by
 have HT:=Veil.mk hT;have HI:Veil (∀j u,BS.cells[j]? = some u→w.cell? ⟨0,0+j,none⟩=some u):=⟨fun j u hu=>by
  rw[Nat.zero_add];have hj:j<8:=(List.getElem?_eq_some_iff.1 hu).1
  rw[hT.2 j hj];rw[←hu];rcases j with _|_|_|_|_|_|_|_|j
  all_goals first|omega|rfl⟩
 clear hT;have Hc8:Veil (∀(st:S8) j u,st.cells[j]? = some u→st.cells.toArray[0+j]? = some u):=⟨fun st j u hu=>by simpa using hu⟩
 have Ho8:Veil (∀(st:S8),∀u∈st.cells,u.oneCell'=true):=⟨fun st u hu=>by
  simp only[S8.cells,List.mem_cons,List.not_mem_nil,or_false]at hu;rcases hu with rfl|rfl|rfl|rfl|rfl|rfl|rfl|rfl<;>rfl⟩
 go_enter Tryz.func46,Tryz.ntmps46
 go_wp2_with (first
  |(refine Zeh rfl _ (.global 0) rfl 0 0 rfl Tryz.underlying143 rfl BS.cells G9 HI.out ?_)
  |(refine SU _ rfl _ (.tmp 3) (.tmp 8) rfl rfl BS.cells rfl G9 rfl (Ho8.out _) ?_))
 have k0:=heap_alloc_new w (.cells BS.cells.toArray 143);have b0:=(Below.refl w.heap.size w).alloc (Nat.le_refl _) (.cells BS.cells.toArray 143);generalize w.alloc (.cells BS.cells.toArray 143)=w2 at k0 b0 ⊢;go_loopw [4] (fun r wr=>∃(n:Nat) (x:ByteArray),r=.string x∧x.size≤9223372036854775807∧Veil (x.data.toList=s.data.toList.drop (64*n))∧64*n≤s.size∧wr.heap[w.heap.size]? = some (.cells (BF s.data.toList BS n).cells.toArray 143 (0,0))∧Below w.heap.size w wr) (fun r _=>match r with |.string x=>x.size|_=>0)
 case atStart=>exact⟨0,s,rfl,hs,⟨by simp⟩,by omega,k0,b0⟩
 case round=>
  obtain⟨n,x,rfl,hx,Hx,hn,k,hb⟩:=hrel;have hxl:x.size=s.size-64*n:=by have :=congrArg List.length Hx.out;simpa using this
  have Hxl:=Veil.mk hxl;clear hxl;have HTr:=Veil.mk (HT.out.below hb (Nat.le_refl _));have K:=Veil.mk k;clear k;have Hb:=Veil.mk hb;clear hb;by_cases hlt:64≤x.size
  ·go_wp2
   have hgl:=(Array.getElem?_eq_some_iff.1 K.out).1
   refine wp_region_still_tail 3 (by kernel_rfl) (by kernel_rfl) ?_
   simp only[List.take_succ_cons,List.take_zero,List.drop_succ_cons,List.drop_zero];refine SS rfl _ (.tmp 3) rfl w.heap.size 0 rfl K.out Tryz.underlying143 rfl (BF s.data.toList BS n).cells (G9.trans (congrArg some (Jv _).symm)) (Hc8.out _) ?_
   repeat still_step
   refine wpStill_nil ?_
   change wpList _ _ _ _ _ wr.drew;go_wp2_with (first
    |(go_at_call 94;refine(UN (BF s.data.toList BS n) _ _ (S4 x hlt) HTr.out.drew).mono ?_;rintro e w1 ⟨rfl,hb1⟩;generalize hs2:Gk (BF s.data.toList BS n) (x.extract 0 64).data.toList=st2;have Hs2:=Veil.mk hs2;clear hs2;have hk1:=Veil.mk (Vd hb1 hgl K.out);have Hb1:=Veil.mk hb1;clear hb1)
    |(refine Lr rfl _ (.tmp 3) (.tmp 16) rfl w.heap.size rfl st2.cells rfl hk1.out (G9.trans (congrArg some (Jv st2).symm)) (XL st2 _) (Ho8.out _) ?_))
   have hk:=Veil.mk (setRow_heap w1 w.heap.size _ st2.cells.toArray _ _ hk1.out);have hbe:=Veil.mk (OM (Hb.out.drew.trans (Hb1.out.mono Hb.out.size)) (Nat.le_refl _) st2.cells.toArray);generalize w1.setRow w.heap.size st2.cells.toArray=w3 at hk hbe ⊢;go_roundw
   case rel=>
    have hx64:=W5 x x.size (Nat.le_refl _);refine⟨n+1,_,rfl,?_,⟨?_⟩,?_,?_,hbe.out⟩
    ·rw[ByteArray.size_extract];omega
    ·rw[hx64,Hx.out,List.drop_drop];congr 1
    ·have :=Hxl.out;omega
    ·rw[BF]
     rw[←Hx.out,←SH,Hs2.out];exact hk.out
   case measure=>simp only[ByteArray.size_extract];omega
  ·have hnq:s.size / 64=n:=by have :=Hxl.out;omega
   have Hnq:=Veil.mk hnq;clear hnq;generalize hst:BF s.data.toList BS n=st1;have Hst:=Veil.mk hst;clear hst;go_wp2_with (go_at_call 95;refine(Zgd x _ _ (by omega)).mono ?_;rintro e w1 ⟨rfl,hb1⟩)
   have hblk:=WQ x.data.toList s.size;have htl:=QX x.data.toList s.size;generalize hT:Sm.ending x.data.toList s.size=T at hblk htl ⊢;have HTl:=Veil.mk hT;clear hT;have hk1:=Veil.mk ((hb1.block _ ((Array.getElem?_eq_some_iff.1 K.out).1)).trans K.out)
   have hb1':=Veil.mk (Hb.out.trans (hb1.mono Hb.out.size));have hTs:T.length≤300:=by
    have :=O0 (x.data.toList.length+1)
    have:x.data.toList.length=x.size:=by simp
    omega
   clear hb1 htl;have Hblk:=Veil.mk hblk;clear hblk;go_loopw [4] (fun r wr=>∃(n:Nat) (x:ByteArray),r=.string x∧x.size≤300∧Veil (x.data.toList=T.drop (64*n))∧64*n≤T.length∧Veil (wr.heap[w.heap.size]? = some (.cells (BF T st1 n).cells.toArray 143 (0,0)))∧Veil (Below w.heap.size w wr)) (fun r _=>match r with |.string x=>x.size|_=>0)
   case atStart=>exact⟨0,_,rfl,by simpa[ByteArray.size] using hTs,⟨by simp⟩,by omega,⟨by rw[BF,←Hst.out];exact hk1.out⟩,hb1'⟩
   case round=>
    obtain⟨m,y,rfl,hy,Hy,hm,K,Hb⟩:=hrel;have hyl:y.size=T.length-64*m:=by have :=congrArg List.length Hy.out;simpa using this
    have Hyl:=Veil.mk hyl;clear hyl;have HTr:=Veil.mk (HT.out.below Hb.out (Nat.le_refl _));by_cases hlt:0<y.size
    ·have h64:64≤y.size:=by have :=Hyl.out;have :=Hblk.out;omega
     have hem:=ZdE hlt;have h64i:(64:Int)≤y.size:=by omega
     have hgl:=(Array.getElem?_eq_some_iff.1 K.out).1
     go_wp2
     refine wp_region_still_tail 3 (by kernel_rfl) (by kernel_rfl) ?_
     simp only[List.take_succ_cons,List.take_zero,List.drop_succ_cons,List.drop_zero];refine SS rfl _ (.tmp 3) rfl w.heap.size 0 rfl K.out Tryz.underlying143 rfl (BF T st1 m).cells (G9.trans (congrArg some (Jv _).symm)) (Hc8.out _) ?_
     repeat still_step
     refine wpStill_nil ?_
     change wpList _ _ _ _ _ wr.drew;go_wp2_with (first
      |(go_at_call 94;refine(UN (BF T st1 m) _ _ (S4 y h64) HTr.out.drew).mono ?_;rintro e w1 ⟨rfl,hb1⟩;generalize hs2:Gk (BF T st1 m) (y.extract 0 64).data.toList=st2;have Hs2:=Veil.mk hs2;clear hs2;have hk1:=Veil.mk (Vd hb1 hgl K.out);have Hb1:=Veil.mk hb1;clear hb1)
      |(refine Lr rfl _ (.tmp 3) (.tmp 30) rfl w.heap.size rfl st2.cells rfl hk1.out (G9.trans (congrArg some (Jv st2).symm)) (XL st2 _) (Ho8.out _) ?_))
     have hk:=Veil.mk (setRow_heap w1 w.heap.size _ st2.cells.toArray _ _ hk1.out);have hbe:=Veil.mk (OM (Hb.out.drew.trans (Hb1.out.mono Hb.out.size)) (Nat.le_refl _) st2.cells.toArray);generalize w1.setRow w.heap.size st2.cells.toArray=w3 at hk hbe ⊢;go_roundw
     case rel=>
      have hx64:=W5 y y.size (Nat.le_refl _);refine⟨m+1,_,rfl,?_,⟨?_⟩,?_,⟨?_⟩,hbe⟩
      ·rw[ByteArray.size_extract];omega
      ·rw[hx64,Hy.out,List.drop_drop];congr 1
      ·have :=Hyl.out;omega
      ·rw[BF]
       rw[←Hy.out,←SH,Hs2.out];exact hk.out
     case measure=>simp only[ByteArray.size_extract];omega
    ·have hem:=Zgf hlt
     have hmq:T.length / 64=m:=by have :=Hyl.out;omega
     have hfin:J3 s.data.toList=BF T st1 m:=by
      have hsl:s.data.toList.length=s.size:=by simp
      rw[J3,hsl,Hnq.out,Hst.out,←hmq,←HTl.out,Hx.out]
     have Hfin:=Veil.mk hfin;clear hfin hmq;have hgl:=(Array.getElem?_eq_some_iff.1 K.out).1
     generalize hst:BF T st1 m=st at K Hfin;clear hst;have H32:Veil ((32:Nat)≤maxLen):=⟨by unfold maxLen;omega⟩
     have hmk:∀W:World,(Instr.makeSlice 133 (.int .i64 0) (.int .i64 32)).run Tryz.prog W=.ok (.slice (some ⟨W.heap.size,0,none⟩) 0 32) (W.alloc (.cells #[.int .u8 0,.int .u8 0,.int .u8 0,.int .u8 0,.int .u8 0,.int .u8 0,.int .u8 0,.int .u8 0,.int .u8 0,.int .u8 0,.int .u8 0,.int .u8 0,.int .u8 0,.int .u8 0,.int .u8 0,.int .u8 0,.int .u8 0,.int .u8 0,.int .u8 0,.int .u8 0,.int .u8 0,.int .u8 0,.int .u8 0,.int .u8 0,.int .u8 0,.int .u8 0,.int .u8 0,.int .u8 0,.int .u8 0,.int .u8 0,.int .u8 0,.int .u8 0] 5)):=fun _=>by kernel_rfl
     go_wp2_with (refine U4 rfl _ (.tmp 3) rfl w.heap.size 0 rfl ((heap_alloc_old _ _ hgl).trans K.out) Tryz.underlying143 rfl st.cells (G9.trans (congrArg some (Jv _).symm)) (Hc8.out _) ?_)
     have own0:Ap (wr.alloc (.cells #[.int .u8 0,.int .u8 0,.int .u8 0,.int .u8 0,.int .u8 0,.int .u8 0,.int .u8 0,.int .u8 0,.int .u8 0,.int .u8 0,.int .u8 0,.int .u8 0,.int .u8 0,.int .u8 0,.int .u8 0,.int .u8 0,.int .u8 0,.int .u8 0,.int .u8 0,.int .u8 0,.int .u8 0,.int .u8 0,.int .u8 0,.int .u8 0,.int .u8 0,.int .u8 0,.int .u8 0,.int .u8 0,.int .u8 0,.int .u8 0,.int .u8 0,.int .u8 0] 5)) w.heap.size 5 1 (.slice (some ⟨wr.heap.size,0,none⟩) 0 32) []:=Ap.made Hb.out.size H32.out rfl;have hb3:=Hb.out.alloc Hb.out.size (.cells #[.int .u8 0,.int .u8 0,.int .u8 0,.int .u8 0,.int .u8 0,.int .u8 0,.int .u8 0,.int .u8 0,.int .u8 0,.int .u8 0,.int .u8 0,.int .u8 0,.int .u8 0,.int .u8 0,.int .u8 0,.int .u8 0,.int .u8 0,.int .u8 0,.int .u8 0,.int .u8 0,.int .u8 0,.int .u8 0,.int .u8 0,.int .u8 0,.int .u8 0,.int .u8 0,.int .u8 0,.int .u8 0,.int .u8 0,.int .u8 0,.int .u8 0,.int .u8 0] 5);go_loopw [5,7,33] (fun v _ i wx=>∃j:Nat,j≤8∧i=.int .i64 j∧Ap wx w.heap.size 5 1 v (((st.list.take j).flatMap GT).map w8)∧Below w.heap.size w wx) (fun _ _ i _=>8-(intOf i).toNat)
     case atStart=>exact⟨0,by omega,rfl,own0,hb3⟩
     case round=>
      obtain⟨j,hj,rfl,hown,hbx⟩:=hrel;have hle:=hbx.size;by_cases hlt:j<8
      ·have hi:=Ze5 st j hlt
       have hlen:((st.list.take j).flatMap GT).length≤32:=by
        rcases j with _|_|_|_|_|_|_|_|j
        all_goals first|(simp[S8.list,GT];done)|omega
       generalize hxj:st.list.getD j 0=xj at hi;have Hxj:=Veil.mk hxj;clear hxj;have Hlen:=Veil.mk hlen;clear hlen;go_wp2_with (at_builtin;refine Iu wr rfl _ _ _ rfl GP [_,_,_,_] hown rfl rfl ?_ ?_ ?_ hle ?_;rotate_left 3;intro v' w' own' gr')
       rotate_left 1
       ·exact LQ (GT xj)
       iterate 2
        ·rw[List.length_map];have :=Hlen.out;simp only[List.length_cons,List.length_nil];omega
       have own2:Ap w' w.heap.size 5 1 v' (((st.list.take (j+1)).flatMap GT).map w8):=by
        rw[ZgN _ _ hlt,List.map_append,Hxj.out];exact own'
       have hb':=Gu hbx gr' hown (Nat.le_refl _) hle;clear own' gr' hown hbx;go_wp2
       go_roundw
       case rel=>exact⟨j+1,by omega,by go_num,own2,hb'⟩
       case measure=>simp[intOf];omega
      ·obtain rfl:j=8:=by omega
       have hc:=Nl (P:=Tryz.prog) wr 133 9 5 Tryz.underlying133 Tryz.underlying5 Tryz.underlying9 hown.rd;go_wp2
       go_ret
       exact⟨by rw[sha,Hfin.out];rfl,hbx⟩
theorem ZdB(s:ByteArray)(w:World)(hs:s.size≤9223372036854775807):
  Calls Tryz.prog 311 #[.string s] w fun e w'=>e=.returned (.int .i64 (num s.data.toList))∧w=w':=by
 go_enter Tryz.func311,Tryz.ntmps311
 go_wp2
 go_loop [3,4,5] (fun r _ i=>∃k:Nat,k≤8∧i=.int .i64 k∧r=Aq (BitVec.ofNat 64 (B9 s.data.toList k))) (fun _ _ i=>8-(intOf i).toNat)
 case atStart=>exact⟨0,by omega,rfl,rfl⟩
 case round=>
  obtain⟨k,hk,rfl,rfl⟩:=hrel;by_cases hlt:k<8
  ·have st:=Ur s.data.toList k hlt
   have sk:=Zdy s.data.toList k hlt;have ek:∀(h:k<s.size),s.data.toList.getD k 0=s[k]:=by
    intro h;rw[List.getD_eq_getElem?_getD,List.getElem?_eq_getElem (by simpa using h)];rfl
   generalize hn:BitVec.ofNat 64 (B9 s.data.toList k)=n at st sk;have Hn:=Veil.mk hn;have St:=Veil.mk st;have Sk:=Veil.mk sk;have Ek:=Veil.mk ek;clear hn st sk ek;by_cases hl:k<s.size
   ·go_wp2
    go_round
    case rel=>exact⟨k+1,by omega,by go_num,by rw[←St.out,Ek.out hl]⟩
    case measure=>simp[intOf];omega
   ·go_wp2
    go_round
    case rel=>exact⟨k+1,by omega,by go_num,by rw[←Sk.out (by simp;omega)]⟩
    case measure=>simp[intOf];omega
  ·obtain rfl:k=8:=by omega
   have e:=ZdA s.data.toList;generalize hn:BitVec.ofNat 64 (B9 s.data.toList 8)=n at e ⊢;clear hn;have E:=Veil.mk e;clear e;go_wp2
   go_ret
   exact⟨Zcq E.out,rfl⟩
@[go_sem] theorem ZeX{P:Program}(w:World)(t:TypeId)(s:ByteArray)(b:UInt8)(h:P.underlying t=some .string):
  (Instr.index t (.string s) (w8 b)).run P w=if hi:b.toNat<s.size then .ok (w8 (s[b.toNat]'hi)) w else(boundsPanic .u8 b.toNat s.size .index).run P w:=by
 show(Instr.index t (.string s) (.int .u8 _)).run P w=_
 rw[run_index_string w t s .u8 _ h];by_cases hi:b.toNat<s.size
 ·rw[dif_pos hi,dif_pos ⟨by omega,by omega⟩];rfl
 ·rw[dif_neg hi,dif_neg (by omega)]
theorem Ze9(b:UInt8)(h:b.toNat<(⟨#[48,49,50,51,52,53,54,55,56,57,97,98,99,100,101,102]⟩:ByteArray).size):(⟨#[48,49,50,51,52,53,54,55,56,57,97,98,99,100,101,102]⟩:ByteArray)[b.toNat]=Jm b:=by
 unfold Jm digs;rw[List.getD_eq_getElem?_getD,List.getElem?_eq_getElem (by exact h)]
 rfl
theorem VA(w:World)(b:UInt8)(h:b.toNat<16):(Instr.index 9 (.string ⟨#[48,49,50,51,52,53,54,55,56,57,97,98,99,100,101,102]⟩) (w8 b)).run Tryz.prog w=.ok (w8 (Jm b)) w:=by
 rw[ZeX w _ _ _ Tryz.underlying9,dif_pos (by exact h),Ze9 b h]
set_option maxHeartbeats 1000000 in
theorem Zfc(s:ByteArray)(w:World)(hs:s.size≤70368744177664):
  Calls Tryz.prog 109 #[.string s] w fun e w'=>e=.returned (.string ⟨(hex s.data.toList).toArray⟩)∧Below w.heap.size w w':=by
 go_enter Tryz.func109,Tryz.ntmps109
 go_wp2_with (refine ZdP w rfl _ _ _ rfl GP rfl (2*(s.size:Int)) rfl ?_ ?_ ?_ (Nat.le_refl _) ?_;rotate_left 3;intro v0 w0 own0 gr0)
 rotate_left 1
 ·omega
 ·omega
 ·omega
 have hb0:Below w.heap.size w w0:=(Below.refl _ _).grown gr0 (Nat.le_refl _) (fun k hk=>by cases hk)
 clear gr0;go_loopw [3,4,11] (fun v _ i wr=>∃k:Nat,k≤s.size∧i=.int .i64 k∧Ap wr w.heap.size 5 1 v ((hex (s.data.toList.take k)).map w8)∧Below w.heap.size w wr) (fun _ _ i _=>s.size-(intOf i).toNat)
 case atStart=>exact⟨0,by omega,rfl,own0,hb0⟩
 case round=>
  obtain⟨k,hk,rfl,hown,hb⟩:=hrel;have hle:=hb.size;by_cases hlt:k<s.size
  ·have hts:=ZaQ s k hlt
   have hlen:(hex (s.data.toList.take k)).length≤2*k:=by rw[Zfb];have :=List.length_take_le k s.data.toList;omega
   have Hts:=Veil.mk hts;clear hts;have Hlen:=Veil.mk hlen;clear hlen;have d1:=fun W=>VA W (Gd s[k] 4) (Zbt _)
   have d2:=fun W=>VA W (s[k]&&&15) (Zh6 _)
   have hki:(k:Int)<s.size:=by omega
   go_wp2
   have ho:=LQ (hex2 s[k]);have hl1:(((hex (s.data.toList.take k)).map w8).length+((hex2 s[k]).map w8).length)*1≤140737488355328:=by
    rw[List.length_map,List.length_map];have :=Hlen.out;simp only[hex2,List.length_cons,List.length_nil];omega
   have hl2:((hex (s.data.toList.take k)).map w8).length+((hex2 s[k]).map w8).length≤140737488355328:=by omega
   have HO:=Veil.mk ho;have HL1:=Veil.mk hl1;have HL2:=Veil.mk hl2;clear ho hl1 hl2;go_region_law (refine Ps wr.drew rfl (.tmp 14) (.tmp 25) _ rfl GP [w8 (Jm (Gd s[k] 4)),w8 (Jm (s[k]&&&15))] hown.drew rfl rfl HO.out HL1.out HL2.out hle ?_;intro v' w' own' gr')
   all_goals
    have own2:Ap w' w.heap.size 5 1 v' ((hex (s.data.toList.take (k+1))).map w8):=by
     rw[Hts.out,Zfa,List.map_append];exact own'
    have hb':=Gu hb.drew gr' hown.drew (Nat.le_refl _) hle;clear own' gr';go_wp2
    go_roundw
    case rel=>exact⟨k+1,by omega,by go_num,own2,hb'⟩
    case measure=>simp[intOf];omega
  ·have e:=ZaR s k hlt
   rw[e]at hown;have hc:=Nl (P:=Tryz.prog) wr 133 9 5 Tryz.underlying133 Tryz.underlying5 Tryz.underlying9 hown.rd;clear e;generalize hhx:hex s.data.toList=hx at hc;have Hhx:=Veil.mk hhx;clear hhx;go_wp2
   go_ret
   exact⟨by rw[Hhx.out];rfl,hb⟩
end
end
end Go.Proofs.YtipfggegddlgdaaGreatDoor
