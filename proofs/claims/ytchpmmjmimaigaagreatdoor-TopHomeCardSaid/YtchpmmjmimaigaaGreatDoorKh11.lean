import Derived.Test.YtchpmmjmimaigaaGreatDoorKh2
import Derived.Test.YtchpmmjmimaigaaGreatDoorKh9
import Derived.Test.YtchpmmjmimaigaaGreatDoorChecked
import Derived.WalkKit
import Derived.ProofKit
import Derived.WalkSpells
import Derived.Lib.Hide
import Derived.WalkLawsBesides
import Derived.BigRegion
import Derived.RegionTactic
import Derived.BigQuiet
import Derived.Deep.RegionLaw
set_option linter.unusedSectionVars false
set_option linter.unusedVariables false
set_option linter.unusedSimpArgs false
namespace Go.Proofs.YtchpmmjmimaigaaGreatDoor
section
section
open Go.RowKit Sm
set_option maxRecDepth 100000
theorem ZeN{k:IntKind}{a b:Int}(h:a=b):Ending.returned (.int k a)=.returned (.int k b):=by rw[h]
theorem Oi{k:IntKind}{a b:Int}(h:a=b):Value.int k a=.int k b:=by rw[h]
def GN(w:World)(b:Nat)(t:TypeId)(n:Nat)(ws:List (BitVec 32)):Prop:=w.rowIs b t n (fun j=>Ag (ws.getD j 0))
theorem Vu{w:World}{b:Nat}{t:TypeId}{n:Nat}{ws:List (BitVec 32)}(h:GN w b t n ws)(x:BitVec 32):GN (w.setCell ⟨b,ws.length,none⟩ (Ag x)) b t n (ws++[x]):=by
 refine World.rowIs.congr (World.rowIs.set h ws.length (Ag x)) fun i _=>?_
 rw[ZhH];split<;>rfl
theorem Vt{w:World}{b:Nat}(n:Nat)(cs:Array Value)(t:TypeId)(hb:b=w.heap.size)(h:cs=(List.replicate n (Value.int .u32 0)).toArray):GN (w.alloc (.cells cs t)) b t n []:=by
 subst h hb;have :=World.rowIs_alloc w (List.replicate n (Value.int .u32 0)).toArray t (fun _=>Ag 0) (fun i hi=>by
  simp at hi
  simp[List.getElem?_replicate,hi]
  rfl)
 simpa[GN] using this
theorem Qs(x:BitVec 32)(n:Int)(w:World)(h0:0<n)(h:n<32):
  Calls Tryz.prog 187 #[Ag x,.int .i64 n] w fun e w'=>e=.returned (Ag (DF x n.toNat))∧w=w':=by
 have e:=Zex x n h0 h;have E:=Veil.mk e;clear e;go_enter Tryz.func187,Tryz.ntmps187
 go_wp2
 go_ret
 rw[←E.out];exact⟨rfl,rfl⟩
theorem Zev{w:World}{b:Nat}{t:TypeId}{n:Nat}(h:GN w b t n []):GN w b t n (List.replicate n 0):=
 World.rowIs.congr h (fun i hi=>by simp[List.getElem?_replicate,hi])
theorem Vv{w:World}{b:Nat}{t:TypeId}{n:Nat}{ws:List (BitVec 32)}(h:GN w b t n ws)(hl:ws.length=n):w.heap[b]? = some (.cells (ws.map Ag).toArray t (0,0)):=by
 obtain⟨cs,hc,hs,he⟩:=h;rw[hc]
 have:cs=(ws.map Ag).toArray:=by
  apply Array.ext
  ·simp[hs,hl]
  ·intro i h1 h2
   have :=he i (by omega)
   rw[Array.getElem?_eq_getElem h1]at this
   injection this with this
   rw[this];simp at h2
   simp[List.getElem?_eq_getElem h2]
 rw[this]
theorem Pk:(Tryz.prog.info? 235).map (·.size)=some 64:=by kernel_rfl
theorem Ii:(Tryz.prog.info? 174).map (·.size)=some 8:=by kernel_rfl
set_option maxRecDepth 100000 in
set_option maxHeartbeats 4000000 in
theorem Zd1(s:ByteArray)(w:World)(hs:s.size=64):
  Calls Tryz.prog 186 #[.string s] w fun e w'=>e=.returned (.agg ((DD s.data.toList).map Ag).toArray)∧Below w.heap.size w w':=by
 have Hs:=Veil.mk hs;clear hs;go_enter Tryz.func186,Tryz.ntmps186
 go_wp2
 go_loopw [4,5,11] (fun _ _ i wr=>∃k:Nat,k≤16∧i=.int .i64 k∧GN wr w.heap.size 235 64 []∧GN wr (w.heap.size+1) 235 64 (Gq s.data.toList k)∧Below w.heap.size w wr) (fun _ _ i _=>16-(intOf i).toNat)
 case atStart=>
  refine⟨0,by omega,rfl,World.rowIs.alloc (Vt 64 _ _ rfl rfl) _,?_,?_⟩
  ·exact Vt 64 _ _ (by simp) rfl
  ·exact((Below.refl _ _).alloc (Nat.le_refl _) _).alloc (by simp) _
 case round=>
  obtain⟨k,hk,rfl,h0,h1,hb⟩:=hrel;by_cases hlt:k<16
  ·have hs:=Hs.out
   have a1:4*k+4≤s.size:=by omega
   clear hs;have H0:=Veil.mk h0;clear h0;have H1:=Veil.mk h1;have c1:=h1.cell (i:=k) (by omega)
   have f1:=h1.frozen k;clear h1;go_wp2
   generalize hx:s.extract (4*k) (4*k+4)=x;have ht:4≤x.size:=by subst hx;rw[ByteArray.size_extract];omega
   have key:∀i (h':i<x.size) (_:i<4),x[i]=s.data.toList.getD (4*k+i) 0:=by
    subst hx;intro i h' h;exact Zh6 s _ _ i (by omega) a1 h'
   have Key:=Veil.mk key;clear key hx;have i0:0<x.size:=by omega
   have i1:(1:Int)<x.size:=by omega
   have i2:(2:Int)<x.size:=by omega
   have i3:(3:Int)<x.size:=by omega
   go_region
   go_wp2
   go_roundw
   case rel=>
    have e:=Vu H1.out (MB x[0] x[1] x[2] x[3]);rw[SN]at e;refine⟨k+1,by omega,by go_num,World.rowIs.setOther H0.out (by simp) _,?_,(hb.setCell (by simp) _).drew⟩
    rw[Ye,Oa];rw[Key.out 0 (by omega) (by omega),Key.out 1 (by omega) (by omega),Key.out 2 (by omega) (by omega),Key.out 3 (by omega) (by omega)]at e ⊢
    exact e
   case measure=>simp[intOf];omega
  ·have hk16:16≤k:=by omega
   clear hlt;go_wp2
   go_loopw [6,7,8] (fun i _ _ wr=>∃m:Nat,16≤m∧m≤64∧i=.int .i64 m∧GN wr w.heap.size 235 64 []∧GN wr (w.heap.size+1) 235 64 (B9 s.data.toList (m-16))∧Below w.heap.size w wr) (fun i _ _ _=>64-(intOf i).toNat)
   case atStart=>
    obtain rfl:k=16:=by omega
    exact⟨16,by omega,by omega,rfl,h0,h1,hb⟩
   case round=>
    obtain⟨m,hm0,hm,rfl,h0,h1,hb⟩:=hrel;by_cases hlt:m<64
    ·have H0:=Veil.mk h0;clear h0
     have H1:=Veil.mk h1;have c15:=h1.cell (i:=m-15) (by omega)
     have c2:=h1.cell (i:=m-2) (by omega)
     have c7:=h1.cell (i:=m-7) (by omega)
     have c16:=h1.cell (i:=m-16) (by omega)
     have c0:=h1.cell (i:=m) (by omega)
     have f0:=h1.frozen m;clear h1;go_wp2
     go_quiet (fail)
     go_wp2_with (go_at_call 187;refine(Qs _ _ _ (by omega) (by omega)).mono ?_;rintro e w' ⟨rfl,rfl⟩)
     go_region
     go_wp2
     go_roundw
     case rel=>
      have e:=Vu H1.out (O3 (B9 s.data.toList (m-16)) m);rw[OG,show 16+(m-16)=m from by omega]at e
      refine⟨m+1,by omega,by omega,by go_num,World.rowIs.setOther H0.out (by simp) _,?_,(Jp (hb.setCell (by simp) _) _)⟩
      rw[show m+1-16=m-16+1 from by omega,B9,show 16+(m-16)=m from by omega]
      exact e
     case measure=>simp[intOf];omega
    ·have hm64:64≤m:=by omega
     have e:DD s.data.toList=B9 s.data.toList (m-16):=by rw[DD,show m-16=48 from by omega]
     have E:=Veil.mk e;clear e;have hl:(B9 s.data.toList (m-16)).length=64:=by rw[OG];omega
     generalize hws:B9 s.data.toList (m-16)=ws at h1 hl;have Ews:=Veil.mk hws;clear hws hlt;have hr0:=Vv (Zev h0) (by simp)
     have hr1:=Vv h1 hl;have Hr1:=Veil.mk hr1;have Hr0:=Veil.mk hr0;have Hl:=Veil.mk hl;clear h0 h1 hr0 hr1 hl;have Hc:Veil (∀j u,(ws.map Ag)[j]? = some u→(ws.map Ag).toArray[0+j]? = some u):=⟨fun j u hu=>by simpa using hu⟩
     have Hf:Veil ((ws.map Ag).length=(List.map Ag (List.replicate 64 0)).toArray.size):=⟨by simp[Hl.out]⟩
     have Ho:Veil (∀u∈ws.map Ag,u.oneCell'=true):=⟨RJ _⟩
     have Hi:Veil (some 64=some (ws.map Ag).length):=⟨by rw[List.length_map,Hl.out]⟩
     go_wp2_with (first
      |(refine Xb rfl _ (.tmp 3) rfl (w.heap.size+1) 0 rfl Hr1.out Tryz.underlying235 rfl (ws.map Ag) (Pk.trans Hi.out) Hc.out ?_)
      |(refine MG rfl _ (.tmp 2) (.tmp 85) rfl w.heap.size rfl (ws.map Ag) rfl Hr0.out (Pk.trans Hi.out) Hf.out Ho.out ?_))
     refine bodyPost_ret (results_cell_row rfl _ _ w.heap.size _ _ _ _ rfl (setRow_heap wr w.heap.size _ _ _ _ Hr0.out) Tryz.underlying235 rfl (Pk.trans (by rw[Hi.out];simp))) rfl ?_
     exact⟨by rw[E.out,Ews.out],PY hb (Nat.le_refl _) _⟩
def DX(w:World):Prop:=(∀i,i<64→w.cell? ⟨1,i,none⟩=some (Ag (Ff.getD i 0)))∧(∀i,i<8→w.cell? ⟨0,i,none⟩=some (Ag (B3.list.getD i 0)))
theorem DX.keep{w w':World}(h:DX w)(hk:∀b,b<w.heap.size→w'.heap[b]? = w.heap[b]?):DX w':=by
 refine⟨fun i hi=>?_,fun i hi=>?_⟩
 ·rw[World.cell?_of_block (hk _ (World.block_lt_of_cell? w _ (h.1 i hi)))]
  exact h.1 i hi
 ·rw[World.cell?_of_block (hk _ (World.block_lt_of_cell? w _ (h.2 i hi)))]
  exact h.2 i hi
theorem DX.below{w w':World}(h:DX w){B:Nat}(hb:Below B w w')(hB:w.heap.size≤B):DX w':=h.keep fun b hlt=>hb.block b (by omega)
theorem DX.drew{w:World}(h:DX w):DX w.drew:=h
theorem DX.alloc{w:World}(h:DX w)(o:Obj):DX (w.alloc o):=h.keep fun b hb=>heap_alloc_old w o hb
set_option maxRecDepth 100000 in
set_option maxHeartbeats 4000000 in
theorem WY(st:S8)(s:ByteArray)(w:World)(hs:s.size=64)(hT:DX w):
  Calls Tryz.prog 110 #[.agg st.cells.toArray,.string s] w fun e w'=>e=.returned (.agg (GT st s.data.toList).cells.toArray)∧Below w.heap.size w w':=by
 have Hs:=Veil.mk hs;clear hs;have HT:=Veil.mk hT;clear hT;obtain⟨va,vb,vc,vd,ve,vf,vg,vh⟩:=st;simp only[S8.cells];go_enter Tryz.func110,Tryz.ntmps110
 go_wp2_with (first
  |(go_at_call 186;refine(Zd1 s _ Hs.out).mono ?_;rintro e w1 ⟨rfl,hb1⟩)
  |(refine UV _ rfl _ (.tmp 5) (.tmp 18) rfl rfl ((DD s.data.toList).map Ag) rfl ?_ ?_ (RJ _) ?_))
 ·exact Pk.trans (by rw[List.length_map,LF])
 ·rw[List.length_map,LF];rfl
 have hbs:Below w.heap.size w w1:=(((Below.refl _ _).alloc (Nat.le_refl _) _).alloc (by simp) _).trans (hb1.mono (by simp;omega))
 have hsz:w.heap.size+2≤w1.heap.size:=by have :=hb1.size;simp at this;omega
 have g0:w1.heap[w.heap.size]? = some (.cells #[Ag va,Ag vb,Ag vc,Ag vd,Ag ve,Ag vf,Ag vg,Ag vh] 174 (0,0)):=
  (hb1.block _ (by simp;omega)).trans (heap_alloc2_old w _ _)
 have g1:w1.heap[w.heap.size+1]? = some (.cells #[.int .u32 0,.int .u32 0,.int .u32 0,.int .u32 0,.int .u32 0,.int .u32 0,.int .u32 0,.int .u32 0] 174 (0,0)):=
  (hb1.block _ (by simp)).trans (heap_alloc2_new w _ _)
 have hT1:DX w1:=HT.out.below hbs (Nat.le_refl _);clear hb1;have k0:(w1.alloc (.cells ((DD s.data.toList).map Ag).toArray 235)).heap[w.heap.size]? = _:=(heap_alloc_old w1 _ (by omega)).trans g0
 have k1:(w1.alloc (.cells ((DD s.data.toList).map Ag).toArray 235)).heap[w.heap.size+1]? = _:=(heap_alloc_old w1 _ (by omega)).trans g1
 have k2:=heap_alloc_new w1 (.cells ((DD s.data.toList).map Ag).toArray 235);have kT:=hT1.alloc (.cells ((DD s.data.toList).map Ag).toArray 235);have kb:=hbs.alloc hbs.size (.cells ((DD s.data.toList).map Ag).toArray 235);clear g0 g1 hT1 hbs;generalize w1.alloc (.cells ((DD s.data.toList).map Ag).toArray 235)=w2 at k0 k1 k2 kT kb ⊢;generalize hW:w1.heap.size=bw at k2 hsz ⊢;clear hW;have x0:=cell_of_row w2 w.heap.size 0 _ _ _ k0;have x1:=cell_of_row w2 w.heap.size 1 _ _ _ k0;have x2:=cell_of_row w2 w.heap.size 2 _ _ _ k0;have x3:=cell_of_row w2 w.heap.size 3 _ _ _ k0;have x4:=cell_of_row w2 w.heap.size 4 _ _ _ k0;have x5:=cell_of_row w2 w.heap.size 5 _ _ _ k0;have x6:=cell_of_row w2 w.heap.size 6 _ _ _ k0;have x7:=cell_of_row w2 w.heap.size 7 _ _ _ k0;have K0:=Veil.mk k0;have K1:=Veil.mk k1;have K2:=Veil.mk k2;have KT:=Veil.mk kT;have Kb:=Veil.mk kb;clear k0 k1 k2 kT kb;go_wp2
 go_quiet (fail)
 go_wp2
 go_quiet (fail)
 clear x0 x1 x2 x3 x4 x5 x6 x7;go_wp2
 go_loopw [6,7,8,9,10,11,12,13,14,15,16,35] (fun a b c d e f g h _ _ _ i wr=>∃n r:Nat,n≤64∧i=.int .i64 n∧wr=w2.drewN r ∧ ∃st:S8,st=JO s.data.toList ⟨va,vb,vc,vd,ve,vf,vg,vh⟩ n∧a=Ag st.a∧b=Ag st.b∧c=Ag st.c∧d=Ag st.d∧e=Ag st.e∧f=Ag st.f∧g=Ag st.g∧h=Ag st.h) (fun _ _ _ _ _ _ _ _ _ _ _ i _=>64-(intOf i).toNat)
 case atStart=>exact⟨0,_,by omega,rfl,World.drewN_drewN _ _ _,_,rfl,rfl,rfl,rfl,rfl,rfl,rfl,rfl,rfl⟩
 case round=>
  obtain⟨n,r,hn,rfl,rfl,⟨sa,sb,sc,sd,se,sf,sg,sh⟩,hst,rfl,rfl,rfl,rfl,rfl,rfl,rfl,rfl⟩:=hrel;have Hst:=Veil.mk hst;clear hst;by_cases hlt:n<64
  ·have cK:(w2.drewN r).cell? ⟨1,n,none⟩=some (Ag (Ff.getD n 0)):=KT.out.1 n hlt
   have cW:(w2.drewN r).cell? ⟨bw,n,none⟩=some (Ag ((DD s.data.toList).getD n 0)):=by
    show w2.cell? _=_
    rw[cell_of_row w2 bw n _ _ _ K2.out];simp[List.getD_eq_getElem?_getD,List.getElem?_eq_getElem (show n<(DD s.data.toList).length from by rw[LF];exact hlt)]
   generalize hk:Ff.getD n 0=kn at cK;generalize hx:(DD s.data.toList).getD n 0=xn at cW;have Hk:=Veil.mk hk;clear hk;have Hx:=Veil.mk hx;clear hx;generalize hwr:w2.drewN r=wr at cK cW ⊢;have Hwr:=Veil.mk hwr;clear hwr;go_wp2
   go_quiet ((go_at_call 187;exact Calls.quiet_of_same ((Qs _ _ _ (by omega) (by omega)).mono fun _ _ h=>⟨h.1,h.2.symm⟩)))
   go_wp2_with (go_at_call 187;refine(Qs _ _ _ (by omega) (by omega)).mono ?_;rintro e w' ⟨rfl,rfl⟩)
   go_roundw
   case rel=>
    refine⟨n+1,_,by omega,by go_num,by rw[←Hwr.out];exact World.drewN_drewN _ _ _,LL kn xn ⟨sa,sb,sc,sd,se,sf,sg,sh⟩,?_,?_⟩
    ·rw[JO,←Hst.out,Hk.out,Hx.out]
    ·exact⟨rfl,rfl,rfl,rfl,rfl,rfl,rfl,rfl⟩
   case measure=>simp[intOf];omega
  ·have hn64:64≤n:=by omega
   have hm:GT ⟨va,vb,vc,vd,ve,vf,vg,vh⟩ s.data.toList=S8.add ⟨va,vb,vc,vd,ve,vf,vg,vh⟩ ⟨sa,sb,sc,sd,se,sf,sg,sh⟩:=by
    obtain rfl:n=64:=by omega
    rw[GT,←Hst.out]
   have Hm:=Veil.mk hm;clear hm hlt;have k0:(w2.drewN r).heap[w.heap.size]? = _:=K0.out;have k1:(w2.drewN r).heap[w.heap.size+1]? = _:=K1.out;have kb:=Jp Kb.out r;generalize w2.drewN r=wr at k0 k1 kb ⊢;have x0:=cell_of_row wr w.heap.size 0 _ _ _ k0;have x1:=cell_of_row wr w.heap.size 1 _ _ _ k0;have x2:=cell_of_row wr w.heap.size 2 _ _ _ k0;have x3:=cell_of_row wr w.heap.size 3 _ _ _ k0;have x4:=cell_of_row wr w.heap.size 4 _ _ _ k0;have x5:=cell_of_row wr w.heap.size 5 _ _ _ k0;have x6:=cell_of_row wr w.heap.size 6 _ _ _ k0;have x7:=cell_of_row wr w.heap.size 7 _ _ _ k0;have K1:=Veil.mk k1;have Kb:=Veil.mk kb;clear k0 k1 kb;have Hi:Veil (some 8=some [Ag (va+sa),Ag (vb+sb),Ag (vc+sc),Ag (vd+sd),Ag (ve+se),Ag (vf+sf),Ag (vg+sg),Ag (vh+sh)].length):=⟨rfl⟩;go_wp2_with (refine MG rfl _ (.tmp 4) (.tmp 130) rfl (w.heap.size+1) rfl [Ag (va+sa),Ag (vb+sb),Ag (vc+sc),Ag (vd+sd),Ag (ve+se),Ag (vf+sf),Ag (vg+sg),Ag (vh+sh)] rfl K1.out (Ii.trans Hi.out) rfl (by simp[Value.oneCell',Ag]) ?_)
   refine bodyPost_ret (results_cell_row rfl _ _ (w.heap.size+1) _ _ _ _ rfl (setRow_heap wr (w.heap.size+1) _ _ _ _ K1.out) Tryz.underlying174 rfl (Ii.trans Hi.out)) rfl ?_
   exact⟨by rw[Hm.out];rfl,PY Kb.out (by omega) _⟩
theorem HG:F0 Tryz.prog 164 5 1 1:=F0.mk' (z:=.int .u8 0) Tryz.underlying164 (by kernel_rfl) rfl (by omega)
def lenOf:Value→Nat|.slice _ n _=>n|_=>0
set_option maxHeartbeats 1000000 in
theorem Zii(s:ByteArray)(n:Int)(w:World)(hs:s.size≤64):
  Calls Tryz.prog 111 #[.string s,.int .i64 n] w fun e w'=>e=.returned (.string ⟨(ending s.data.toList n).toArray⟩)∧Below w.heap.size w w':=by
 have hm:s.size≤maxLen:=by unfold maxLen;omega
 go_enter Tryz.func111,Tryz.ntmps111
 go_wp2_with (first
  |(refine ZG w rfl _ _ (.tmp 8) rfl 5 s rfl Tryz.underlying9 Tryz.underlying164 Tryz.underlying5 hm (base:=w.heap.size) (Nat.le_refl _) ?_;intro v0 w0 own0 gr0 hx;clear hx)
  |(at_builtin;refine Jq w0 rfl _ _ _ rfl HG [.int .u8 128] own0 rfl rfl ?_ ?_ ?_ ?_ ?_))
 ·exact Ia rfl
 ·simp;omega
 ·simp;omega
 ·exact gr0.size
 intro v1 w1 own1 gr1;have hb1:Below w.heap.size w w1:=G1 ((Below.refl _ _).grown gr0 (Nat.le_refl _) (fun k hk=>by cases hk)) gr1 own0 (Nat.le_refl _) gr0.size
 have own1':Au w1 w.heap.size 5 1 v1 ((Di s.data.toList 0).map w8):=by
  rw[show((Di s.data.toList 0).map w8)=s.data.toList.map w8++[.int .u8 128]from by simp[Di];rfl]
  exact own1
 clear own0 gr0 gr1 own1;have hl:s.data.toList.length=s.size:=by simp
 generalize hs0:s.data.toList=l at own1' hl ⊢;have Hl:=Veil.mk hl;have Hs0:=Veil.mk hs0;clear hl hs0;go_wp2
 go_loopw [5] (fun v wr=>∃(N z:Nat) (A:Option Addr) (c:Nat),v=.slice A N c∧Veil (N=l.length+1+z)∧z≤BZ (l.length+1)∧Au wr w.heap.size 5 1 (.slice A N c) ((Di l z).map w8)∧Below w.heap.size w wr) (fun v _=>l.length+1+BZ (l.length+1)-lenOf v)
 case atStart=>
  obtain⟨A,c,rfl⟩:=own1'.len1;exact⟨_,0,A,c,rfl,⟨by rw[List.length_map,Gr]⟩,Nat.zero_le _,own1',hb1⟩
 case round=>
  obtain⟨N,z,A,c,rfl,HN,hz,hown,hb⟩:=hrel;have hzl:=Qe (l.length+1);have hNs:N≤200:=by have :=HN.out;have :=Hl.out;omega
  have hmod:((N:Int) % 64 !=56)=decide (z<BZ (l.length+1)):=by
   have h1:=Qf (l.length+1);have h2:=T3 (l.length+1) z;rw[HN.out];by_cases hlt:z<BZ (l.length+1)
   ·have :=h2 hlt
    simp only[hlt,decide_true,bne_iff_ne];omega
   ·obtain rfl:z=BZ (l.length+1):=by omega
    simp only[hlt,decide_false,bne_eq_false_iff_eq];omega
  have hle:=hb.size;by_cases hlt:z<BZ (l.length+1)
  ·have ht:((N:Int) % 64 !=56)=true:=by rw[hmod];simpa using hlt
   clear hmod;go_wp2_with (at_builtin;refine Jq wr rfl _ _ _ rfl HG [.int .u8 0] hown rfl rfl ?_ ?_ ?_ hle ?_;rotate_left 3;intro v' w' own' gr')
   rotate_left 1
   ·exact Ia rfl
   ·rw[List.length_map,Gr,←HN.out];simp;omega
   ·rw[List.length_map,Gr,←HN.out];simp;omega
   have hb':=G1 hb gr' hown (Nat.le_refl _) hle;have own2:Au w' w.heap.size 5 1 v' ((Di l (z+1)).map w8):=by rw[YB,List.map_append];exact own'
   clear own' gr' hown hb;go_wp2
   go_roundw
   obtain⟨A',c',rfl⟩:=own2.len1;case rel=>exact⟨_,z+1,A',c',rfl,⟨by rw[List.length_map,Gr]⟩,by omega,own2,hb'⟩
   case measure=>
    obtain⟨A',c',rfl⟩:=own2.len1;simp only[lenOf,List.length_map,Gr];have :=HN.out;omega
  ·have ht:((N:Int) % 64 !=56)=false:=by rw[hmod];simpa using hlt
   obtain rfl:z=BZ (l.length+1):=by omega
   clear hmod;go_wp2
   go_loopw [5,7] (fun v i wr=>∃(M j:Nat) (A:Option Addr) (c:Nat),v=.slice A M c∧j≤8∧i=.int .i64 (56-8*(j:Int))∧Au wr w.heap.size 5 1 (.slice A M c) ((Di l (BZ (l.length+1))++Fe (BitVec.ofInt 64 n*8#64) j).map w8)∧Below w.heap.size w wr) (fun _ i _=>(intOf i+8).toNat)
   case atStart=>exact⟨N,0,A,c,rfl,by omega,rfl,by simpa[Fe] using hown,hb⟩
   case round=>
    obtain⟨M,j,A',c',rfl,hj,rfl,hown,hb⟩:=hrel;have hle:=hb.size;have hlen:(Di l (BZ (l.length+1))++Fe (BitVec.ofInt 64 n*8#64) j).length≤200:=by
     rw[List.length_append,Gr]
     have:(Fe (BitVec.ofInt 64 n*8#64) j).length≤8:=by simp[Fe,NN];omega
     have :=Hl.out;omega
    by_cases hlt:j<8
    ·have hge:(0:Int)≤56-8*(j:Int):=by omega
     go_wp2_with (at_builtin;refine Jq wr rfl _ _ _ rfl HG [_] hown rfl rfl ?_ ?_ ?_ hle ?_;rotate_left 3;intro v' w' own' gr')
     rotate_left 1
     ·exact Ia rfl
     iterate 2
      ·rw[List.length_map];simp only[List.length_singleton];omega
     have hb':=G1 hb gr' hown (Nat.le_refl _) hle;have own2:Au w' w.heap.size 5 1 v' ((Di l (BZ (l.length+1))++Fe (BitVec.ofInt 64 n*8#64) (j+1)).map w8):=by
      rw[Z7 _ _ hlt,←List.append_assoc,List.map_append];exact own'
     clear own' gr' hown hb;obtain⟨A2,c2,rfl⟩:=own2.len1;go_wp2
     go_roundw
     case rel=>exact⟨_,j+1,A2,c2,rfl,by omega,by go_num,own2,hb'⟩
     case measure=>simp[intOf];omega
    ·obtain rfl:j=8:=by omega
     have hc:=Oq (P:=Tryz.prog) wr 164 9 5 Tryz.underlying164 Tryz.underlying5 Tryz.underlying9 hown.rd;go_wp2
     go_ret
     exact⟨by rw[Hs0.out];rfl,hb⟩
theorem Zhp(st:S8)(j:Nat)(hj:j<8):∀W:World,(Instr.index 174 (.agg st.cells.toArray) (.int .i64 (j:Int))).run Tryz.prog W=.ok (Ag (st.list.getD j 0)) W:=by
 intro W;rcases j with _|_|_|_|_|_|_|_|j
 all_goals first|omega|kernel_rfl
theorem Xl{w w1:World}{g:Nat}{o:Obj}(hb:Below w.drew.heap.size w.drew w1)(hlt:g<w.heap.size)(h:w.heap[g]? = some o):w1.heap[g]? = some o:=(hb.block g hlt).trans h
set_option maxRecDepth 100000 in
set_option maxHeartbeats 400000 in
theorem ZdO(s:ByteArray)(w:World)(hs:s.size≤9223372036854775807)(hT:DX w):
  Calls Tryz.prog 50 #[.string s] w fun e w'=>e=.returned (.string ⟨(sha s.data.toList).toArray⟩)∧Below w.heap.size w w':=by
 have HT:=Veil.mk hT;have HI:Veil (∀j u,B3.cells[j]? = some u→w.cell? ⟨0,0+j,none⟩=some u):=⟨fun j u hu=>by
  rw[Nat.zero_add];have hj:j<8:=(List.getElem?_eq_some_iff.1 hu).1
  rw[hT.2 j hj];rw[←hu];rcases j with _|_|_|_|_|_|_|_|j
  all_goals first|omega|rfl⟩
 clear hT;have Hc8:Veil (∀(st:S8) j u,st.cells[j]? = some u→st.cells.toArray[0+j]? = some u):=⟨fun st j u hu=>by simpa using hu⟩
 have Ho8:Veil (∀(st:S8),∀u∈st.cells,u.oneCell'=true):=⟨fun st u hu=>by
  simp only[S8.cells,List.mem_cons,List.not_mem_nil,or_false]at hu;rcases hu with rfl|rfl|rfl|rfl|rfl|rfl|rfl|rfl<;>rfl⟩
 go_enter Tryz.func50,Tryz.ntmps50
 go_wp2_with (first
  |(refine ZgH rfl _ (.global 0) rfl 0 0 rfl Tryz.underlying174 rfl B3.cells Ii HI.out ?_)
  |(refine UV _ rfl _ (.tmp 3) (.tmp 8) rfl rfl B3.cells rfl Ii rfl (Ho8.out _) ?_))
 have k0:=heap_alloc_new w (.cells B3.cells.toArray 174);have b0:=(Below.refl w.heap.size w).alloc (Nat.le_refl _) (.cells B3.cells.toArray 174);generalize w.alloc (.cells B3.cells.toArray 174)=w2 at k0 b0 ⊢;go_loopw [4] (fun r wr=>∃(n:Nat) (x:ByteArray),r=.string x∧x.size≤9223372036854775807∧Veil (x.data.toList=s.data.toList.drop (64*n))∧64*n≤s.size∧wr.heap[w.heap.size]? = some (.cells (BE s.data.toList B3 n).cells.toArray 174 (0,0))∧Below w.heap.size w wr) (fun r _=>match r with |.string x=>x.size|_=>0)
 case atStart=>exact⟨0,s,rfl,hs,⟨by simp⟩,by omega,k0,b0⟩
 case round=>
  obtain⟨n,x,rfl,hx,Hx,hn,k,hb⟩:=hrel;have hxl:x.size=s.size-64*n:=by have :=congrArg List.length Hx.out;simpa using this
  have Hxl:=Veil.mk hxl;clear hxl;have HTr:=Veil.mk (HT.out.below hb (Nat.le_refl _));have K:=Veil.mk k;clear k;have Hb:=Veil.mk hb;clear hb;by_cases hlt:64≤x.size
  ·go_wp2
   have hgl:=(Array.getElem?_eq_some_iff.1 K.out).1
   refine wp_region_still_tail 3 (by kernel_rfl) (by kernel_rfl) ?_
   simp only[List.take_succ_cons,List.take_zero,List.drop_succ_cons,List.drop_zero];refine UT rfl _ (.tmp 3) rfl w.heap.size 0 rfl K.out Tryz.underlying174 rfl (BE s.data.toList B3 n).cells (Ii.trans (congrArg some (Kk _).symm)) (Hc8.out _) ?_
   repeat still_step
   refine wpStill_nil ?_
   change wpList _ _ _ _ _ wr.drew;go_wp2_with (first
    |(go_at_call 110;refine(WY (BE s.data.toList B3 n) _ _ (U7 x hlt) HTr.out.drew).mono ?_;rintro e w1 ⟨rfl,hb1⟩;generalize hs2:GT (BE s.data.toList B3 n) (x.extract 0 64).data.toList=st2;have Hs2:=Veil.mk hs2;clear hs2;have hk1:=Veil.mk (Xl hb1 hgl K.out);have Hb1:=Veil.mk hb1;clear hb1)
    |(refine MG rfl _ (.tmp 3) (.tmp 16) rfl w.heap.size rfl st2.cells rfl hk1.out (Ii.trans (congrArg some (Kk st2).symm)) (ZB st2 _) (Ho8.out _) ?_))
   have hk:=Veil.mk (setRow_heap w1 w.heap.size _ st2.cells.toArray _ _ hk1.out);have hbe:=Veil.mk (PY (Hb.out.drew.trans (Hb1.out.mono Hb.out.size)) (Nat.le_refl _) st2.cells.toArray);generalize w1.setRow w.heap.size st2.cells.toArray=w3 at hk hbe ⊢;go_roundw
   case rel=>
    have hx64:=YU x x.size (Nat.le_refl _);refine⟨n+1,_,rfl,?_,⟨?_⟩,?_,?_,hbe.out⟩
    ·rw[ByteArray.size_extract];omega
    ·rw[hx64,Hx.out,List.drop_drop];congr 1
    ·have :=Hxl.out;omega
    ·rw[BE]
     rw[←Hx.out,←UH,Hs2.out];exact hk.out
   case measure=>simp only[ByteArray.size_extract];omega
  ·have hnq:s.size / 64=n:=by have :=Hxl.out;omega
   have Hnq:=Veil.mk hnq;clear hnq;generalize hst:BE s.data.toList B3 n=st1;have Hst:=Veil.mk hst;clear hst;go_wp2_with (go_at_call 111;refine(Zii x _ _ (by omega)).mono ?_;rintro e w1 ⟨rfl,hb1⟩)
   have hblk:=YA x.data.toList s.size;have htl:=SW x.data.toList s.size;generalize hT:Sm.ending x.data.toList s.size=T at hblk htl ⊢;have HTl:=Veil.mk hT;clear hT;have hk1:=Veil.mk ((hb1.block _ ((Array.getElem?_eq_some_iff.1 K.out).1)).trans K.out)
   have hb1':=Veil.mk (Hb.out.trans (hb1.mono Hb.out.size));have hTs:T.length≤300:=by
    have :=Qe (x.data.toList.length+1)
    have:x.data.toList.length=x.size:=by simp
    omega
   clear hb1 htl;have Hblk:=Veil.mk hblk;clear hblk;go_loopw [4] (fun r wr=>∃(n:Nat) (x:ByteArray),r=.string x∧x.size≤300∧Veil (x.data.toList=T.drop (64*n))∧64*n≤T.length∧Veil (wr.heap[w.heap.size]? = some (.cells (BE T st1 n).cells.toArray 174 (0,0)))∧Veil (Below w.heap.size w wr)) (fun r _=>match r with |.string x=>x.size|_=>0)
   case atStart=>exact⟨0,_,rfl,by simpa[ByteArray.size] using hTs,⟨by simp⟩,by omega,⟨by rw[BE,←Hst.out];exact hk1.out⟩,hb1'⟩
   case round=>
    obtain⟨m,y,rfl,hy,Hy,hm,K,Hb⟩:=hrel;have hyl:y.size=T.length-64*m:=by have :=congrArg List.length Hy.out;simpa using this
    have Hyl:=Veil.mk hyl;clear hyl;have HTr:=Veil.mk (HT.out.below Hb.out (Nat.le_refl _));by_cases hlt:0<y.size
    ·have h64:64≤y.size:=by have :=Hyl.out;have :=Hblk.out;omega
     have hem:=Zga hlt;have h64i:(64:Int)≤y.size:=by omega
     have hgl:=(Array.getElem?_eq_some_iff.1 K.out).1
     go_wp2
     refine wp_region_still_tail 3 (by kernel_rfl) (by kernel_rfl) ?_
     simp only[List.take_succ_cons,List.take_zero,List.drop_succ_cons,List.drop_zero];refine UT rfl _ (.tmp 3) rfl w.heap.size 0 rfl K.out Tryz.underlying174 rfl (BE T st1 m).cells (Ii.trans (congrArg some (Kk _).symm)) (Hc8.out _) ?_
     repeat still_step
     refine wpStill_nil ?_
     change wpList _ _ _ _ _ wr.drew;go_wp2_with (first
      |(go_at_call 110;refine(WY (BE T st1 m) _ _ (U7 y h64) HTr.out.drew).mono ?_;rintro e w1 ⟨rfl,hb1⟩;generalize hs2:GT (BE T st1 m) (y.extract 0 64).data.toList=st2;have Hs2:=Veil.mk hs2;clear hs2;have hk1:=Veil.mk (Xl hb1 hgl K.out);have Hb1:=Veil.mk hb1;clear hb1)
      |(refine MG rfl _ (.tmp 3) (.tmp 30) rfl w.heap.size rfl st2.cells rfl hk1.out (Ii.trans (congrArg some (Kk st2).symm)) (ZB st2 _) (Ho8.out _) ?_))
     have hk:=Veil.mk (setRow_heap w1 w.heap.size _ st2.cells.toArray _ _ hk1.out);have hbe:=Veil.mk (PY (Hb.out.drew.trans (Hb1.out.mono Hb.out.size)) (Nat.le_refl _) st2.cells.toArray);generalize w1.setRow w.heap.size st2.cells.toArray=w3 at hk hbe ⊢;go_roundw
     case rel=>
      have hx64:=YU y y.size (Nat.le_refl _);refine⟨m+1,_,rfl,?_,⟨?_⟩,?_,⟨?_⟩,hbe⟩
      ·rw[ByteArray.size_extract];omega
      ·rw[hx64,Hy.out,List.drop_drop];congr 1
      ·have :=Hyl.out;omega
      ·rw[BE]
       rw[←Hy.out,←UH,Hs2.out];exact hk.out
     case measure=>simp only[ByteArray.size_extract];omega
    ·have hem:=Zij hlt
     have hmq:T.length / 64=m:=by have :=Hyl.out;omega
     have hfin:LD s.data.toList=BE T st1 m:=by
      have hsl:s.data.toList.length=s.size:=by simp
      rw[LD,hsl,Hnq.out,Hst.out,←hmq,←HTl.out,Hx.out]
     have Hfin:=Veil.mk hfin;clear hfin hmq;have hgl:=(Array.getElem?_eq_some_iff.1 K.out).1
     generalize hst:BE T st1 m=st at K Hfin;clear hst;have H32:Veil ((32:Nat)≤maxLen):=⟨by unfold maxLen;omega⟩
     have hmk:∀W:World,(Instr.makeSlice 164 (.int .i64 0) (.int .i64 32)).run Tryz.prog W=.ok (.slice (some ⟨W.heap.size,0,none⟩) 0 32) (W.alloc (.cells #[.int .u8 0,.int .u8 0,.int .u8 0,.int .u8 0,.int .u8 0,.int .u8 0,.int .u8 0,.int .u8 0,.int .u8 0,.int .u8 0,.int .u8 0,.int .u8 0,.int .u8 0,.int .u8 0,.int .u8 0,.int .u8 0,.int .u8 0,.int .u8 0,.int .u8 0,.int .u8 0,.int .u8 0,.int .u8 0,.int .u8 0,.int .u8 0,.int .u8 0,.int .u8 0,.int .u8 0,.int .u8 0,.int .u8 0,.int .u8 0,.int .u8 0,.int .u8 0] 5)):=fun _=>by kernel_rfl
     go_wp2_with (refine Xb rfl _ (.tmp 3) rfl w.heap.size 0 rfl ((heap_alloc_old _ _ hgl).trans K.out) Tryz.underlying174 rfl st.cells (Ii.trans (congrArg some (Kk _).symm)) (Hc8.out _) ?_)
     have own0:Au (wr.alloc (.cells #[.int .u8 0,.int .u8 0,.int .u8 0,.int .u8 0,.int .u8 0,.int .u8 0,.int .u8 0,.int .u8 0,.int .u8 0,.int .u8 0,.int .u8 0,.int .u8 0,.int .u8 0,.int .u8 0,.int .u8 0,.int .u8 0,.int .u8 0,.int .u8 0,.int .u8 0,.int .u8 0,.int .u8 0,.int .u8 0,.int .u8 0,.int .u8 0,.int .u8 0,.int .u8 0,.int .u8 0,.int .u8 0,.int .u8 0,.int .u8 0,.int .u8 0,.int .u8 0] 5)) w.heap.size 5 1 (.slice (some ⟨wr.heap.size,0,none⟩) 0 32) []:=Au.made Hb.out.size H32.out rfl;have hb3:=Hb.out.alloc Hb.out.size (.cells #[.int .u8 0,.int .u8 0,.int .u8 0,.int .u8 0,.int .u8 0,.int .u8 0,.int .u8 0,.int .u8 0,.int .u8 0,.int .u8 0,.int .u8 0,.int .u8 0,.int .u8 0,.int .u8 0,.int .u8 0,.int .u8 0,.int .u8 0,.int .u8 0,.int .u8 0,.int .u8 0,.int .u8 0,.int .u8 0,.int .u8 0,.int .u8 0,.int .u8 0,.int .u8 0,.int .u8 0,.int .u8 0,.int .u8 0,.int .u8 0,.int .u8 0,.int .u8 0] 5);go_loopw [5,7,33] (fun v _ i wx=>∃j:Nat,j≤8∧i=.int .i64 j∧Au wx w.heap.size 5 1 v (((st.list.take j).flatMap HJ).map w8)∧Below w.heap.size w wx) (fun _ _ i _=>8-(intOf i).toNat)
     case atStart=>exact⟨0,by omega,rfl,own0,hb3⟩
     case round=>
      obtain⟨j,hj,rfl,hown,hbx⟩:=hrel;have hle:=hbx.size;by_cases hlt:j<8
      ·have hi:=Zhp st j hlt
       have hlen:((st.list.take j).flatMap HJ).length≤32:=by
        rcases j with _|_|_|_|_|_|_|_|j
        all_goals first|(simp[S8.list,HJ];done)|omega
       generalize hxj:st.list.getD j 0=xj at hi;have Hxj:=Veil.mk hxj;clear hxj;have Hlen:=Veil.mk hlen;clear hlen;go_wp2_with (at_builtin;refine Jq wr rfl _ _ _ rfl HG [_,_,_,_] hown rfl rfl ?_ ?_ ?_ hle ?_;rotate_left 3;intro v' w' own' gr')
       rotate_left 1
       ·exact M0 (HJ xj)
       iterate 2
        ·rw[List.length_map];have :=Hlen.out;simp only[List.length_cons,List.length_nil];omega
       have own2:Au w' w.heap.size 5 1 v' (((st.list.take (j+1)).flatMap HJ).map w8):=by
        rw[ZiO _ _ hlt,List.map_append,Hxj.out];exact own'
       have hb':=G1 hbx gr' hown (Nat.le_refl _) hle;clear own' gr' hown hbx;go_wp2
       go_roundw
       case rel=>exact⟨j+1,by omega,by go_num,own2,hb'⟩
       case measure=>simp[intOf];omega
      ·obtain rfl:j=8:=by omega
       have hc:=Oq (P:=Tryz.prog) wr 164 9 5 Tryz.underlying164 Tryz.underlying5 Tryz.underlying9 hown.rd;go_wp2
       go_ret
       exact⟨by rw[sha,Hfin.out];rfl,hbx⟩
theorem Zf5(s:ByteArray)(w:World)(hs:s.size≤9223372036854775807):
  Calls Tryz.prog 135 #[.string s] w fun e w'=>e=.returned (.int .i64 (num s.data.toList))∧w=w':=by
 go_enter Tryz.func135,Tryz.ntmps135
 go_wp2
 go_loop [3,4,5] (fun r _ i=>∃k:Nat,k≤8∧i=.int .i64 k∧r=Av (BitVec.ofNat 64 (Ck s.data.toList k))) (fun _ _ i=>8-(intOf i).toNat)
 case atStart=>exact⟨0,by omega,rfl,rfl⟩
 case round=>
  obtain⟨k,hk,rfl,rfl⟩:=hrel;by_cases hlt:k<8
  ·have st:=Wy s.data.toList k hlt
   have sk:=Zf0 s.data.toList k hlt;have ek:∀(h:k<s.size),s.data.toList.getD k 0=s[k]:=by
    intro h;rw[List.getD_eq_getElem?_getD,List.getElem?_eq_getElem (by simpa using h)];rfl
   generalize hn:BitVec.ofNat 64 (Ck s.data.toList k)=n at st sk;have Hn:=Veil.mk hn;have St:=Veil.mk st;have Sk:=Veil.mk sk;have Ek:=Veil.mk ek;clear hn st sk ek;by_cases hl:k<s.size
   ·go_wp2
    go_round
    case rel=>exact⟨k+1,by omega,by go_num,by rw[←St.out,Ek.out hl]⟩
    case measure=>simp[intOf];omega
   ·go_wp2
    go_round
    case rel=>exact⟨k+1,by omega,by go_num,by rw[←Sk.out (by simp;omega)]⟩
    case measure=>simp[intOf];omega
  ·obtain rfl:k=8:=by omega
   have e:=Zf4 s.data.toList;generalize hn:BitVec.ofNat 64 (Ck s.data.toList 8)=n at e ⊢;clear hn;have E:=Veil.mk e;clear e;go_wp2
   go_ret
   exact⟨ZeN E.out,rfl⟩
@[go_sem] theorem Zhm{P:Program}(w:World)(t:TypeId)(s:ByteArray)(b:UInt8)(h:P.underlying t=some .string):
  (Instr.index t (.string s) (w8 b)).run P w=if hi:b.toNat<s.size then .ok (w8 (s[b.toNat]'hi)) w else(boundsPanic .u8 b.toNat s.size .index).run P w:=by
 show(Instr.index t (.string s) (.int .u8 _)).run P w=_
 rw[run_index_string w t s .u8 _ h];by_cases hi:b.toNat<s.size
 ·rw[dif_pos hi,dif_pos ⟨by omega,by omega⟩];rfl
 ·rw[dif_neg hi,dif_neg (by omega)]
theorem Zhv(b:UInt8)(h:b.toNat<(⟨#[48,49,50,51,52,53,54,55,56,57,97,98,99,100,101,102]⟩:ByteArray).size):(⟨#[48,49,50,51,52,53,54,55,56,57,97,98,99,100,101,102]⟩:ByteArray)[b.toNat]=J6 b:=by
 unfold J6 digs;rw[List.getD_eq_getElem?_getD,List.getElem?_eq_getElem (by exact h)]
 rfl
theorem XM(w:World)(b:UInt8)(h:b.toNat<16):(Instr.index 9 (.string ⟨#[48,49,50,51,52,53,54,55,56,57,97,98,99,100,101,102]⟩) (w8 b)).run Tryz.prog w=.ok (w8 (J6 b)) w:=by
 rw[Zhm w _ _ _ Tryz.underlying9,dif_pos (by exact h),Zhv b h]
set_option maxHeartbeats 1000000 in
theorem Zhy(s:ByteArray)(w:World)(hs:s.size≤70368744177664):
  Calls Tryz.prog 94 #[.string s] w fun e w'=>e=.returned (.string ⟨(hex s.data.toList).toArray⟩)∧Below w.heap.size w w':=by
 go_enter Tryz.func94,Tryz.ntmps94
 go_wp2_with (refine Zgm w rfl _ _ _ rfl HG rfl (2*(s.size:Int)) rfl ?_ ?_ ?_ (Nat.le_refl _) ?_;rotate_left 3;intro v0 w0 own0 gr0)
 rotate_left 1
 ·omega
 ·omega
 ·omega
 have hb0:Below w.heap.size w w0:=(Below.refl _ _).grown gr0 (Nat.le_refl _) (fun k hk=>by cases hk)
 clear gr0;go_loopw [3,4,11] (fun v _ i wr=>∃k:Nat,k≤s.size∧i=.int .i64 k∧Au wr w.heap.size 5 1 v ((hex (s.data.toList.take k)).map w8)∧Below w.heap.size w wr) (fun _ _ i _=>s.size-(intOf i).toNat)
 case atStart=>exact⟨0,by omega,rfl,own0,hb0⟩
 case round=>
  obtain⟨k,hk,rfl,hown,hb⟩:=hrel;have hle:=hb.size;by_cases hlt:k<s.size
  ·have hts:=ZcI s k hlt
   have hlen:(hex (s.data.toList.take k)).length≤2*k:=by rw[Zhx];have :=List.length_take_le k s.data.toList;omega
   have Hts:=Veil.mk hts;clear hts;have Hlen:=Veil.mk hlen;clear hlen;have d1:=fun W=>XM W (GL s[k] 4) (ZdK _)
   have d2:=fun W=>XM W (s[k]&&&15) (Zki _)
   have hki:(k:Int)<s.size:=by omega
   go_wp2
   have ho:=M0 (hex2 s[k]);have hl1:(((hex (s.data.toList.take k)).map w8).length+((hex2 s[k]).map w8).length)*1≤140737488355328:=by
    rw[List.length_map,List.length_map];have :=Hlen.out;simp only[hex2,List.length_cons,List.length_nil];omega
   have hl2:((hex (s.data.toList.take k)).map w8).length+((hex2 s[k]).map w8).length≤140737488355328:=by omega
   have HO:=Veil.mk ho;have HL1:=Veil.mk hl1;have HL2:=Veil.mk hl2;clear ho hl1 hl2;go_region_law (refine QC wr.drew rfl (.tmp 14) (.tmp 25) _ rfl HG [w8 (J6 (GL s[k] 4)),w8 (J6 (s[k]&&&15))] hown.drew rfl rfl HO.out HL1.out HL2.out hle ?_;intro v' w' own' gr')
   all_goals
    have own2:Au w' w.heap.size 5 1 v' ((hex (s.data.toList.take (k+1))).map w8):=by
     rw[Hts.out,Zhw,List.map_append];exact own'
    have hb':=G1 hb.drew gr' hown.drew (Nat.le_refl _) hle;clear own' gr';go_wp2
    go_roundw
    case rel=>exact⟨k+1,by omega,by go_num,own2,hb'⟩
    case measure=>simp[intOf];omega
  ·have e:=ZcJ s k hlt
   rw[e]at hown;have hc:=Oq (P:=Tryz.prog) wr 164 9 5 Tryz.underlying164 Tryz.underlying5 Tryz.underlying9 hown.rd;clear e;generalize hhx:hex s.data.toList=hx at hc;have Hhx:=Veil.mk hhx;clear hhx;go_wp2
   go_ret
   exact⟨by rw[Hhx.out];rfl,hb⟩
end
end
end Go.Proofs.YtchpmmjmimaigaaGreatDoor
