import Derived.Test.YtchpmmjmimaigaaGreatDoorKh28
import Derived.Test.YtchpmmjmimaigaaGreatDoorKh29
import Derived.Test.YtchpmmjmimaigaaGreatDoorKh30
set_option linter.unusedSectionVars false
set_option linter.unusedVariables false
set_option linter.unusedSimpArgs false
namespace Go.Proofs.YtchpmmjmimaigaaGreatDoor
section
namespace Pe
open Tryz
open Go Go.RowKit Co Sg Ac It Sl Tp
set_option maxRecDepth 100000
set_option maxHeartbeats 4000000
theorem ZfG(ps:List Int)(l:List It.Item)(id:By)(hl:l.length≤1000)(hk:∀x∈l,(x.kind==1)=false):
  AC prog 123 [BC ps l,.fn (.func 124) [] [.ptr 0 0]] [.cells [.st id]] (.sl .ro []) [.cells [.st id]]:=by
 have hsz:=GV l;have k4':=Zdj 206;refine Ai [45,14,205] [] func123 ?_;refine run ?_;refine CG (fun m e S=>e 1=.fn (.func 124) [] [.ptr 0 0]∧e 5=.sl .full []∧e 15=.sl .ro (l.map Ao)∧e 16=.it .i64 (l.length:Int) ∧ ∃(k:Nat) (T:Ae),e 17=.it .i64 (k:Int)∧S=.cells [.st id]::.cells [AB ps,.sl .ro (l.map Ao)]::T∧k≤l.length∧m=l.length-k) l.length _ _ (Aq.refl _ _ _)
  ⟨Ab,Ab,Ab,Ab,0,[],Ab,rfl,by omega,rfl⟩ ?_
 rintro m e S ⟨s1,s5,s15,s16,k,T,s17,rfl,hk',rfl⟩
 have hT1:∀y:SObj,(T++[y])[T.length]? = some y:=fun y=>by simp
 have hT2:∀y z:SObj,(T++[y]).set T.length z=T++[z]:=fun y z=>by simp
 have hT3:∀y z:SObj,(T++[y]++[z])[T.length]? = some y:=fun y z=>by simp
 have hT4:∀y z:SObj,(T++[y]++[z])[T.length+1]? = some z:=fun y z=>by simp
 have hT5:∀y z u:SObj,(T++[y]++[z]).set (T.length+1) u=T++[y]++[u]:=fun y z u=>by simp
 by_cases hlt:k<l.length
 ·have hg:l[k]? = some l[k]:=List.getElem?_eq_getElem hlt
  have hlt':(k:Int)<(l.length:Int):=by omega
  have w1:=Cg (k:=k) (by omega)
  have hkk:=hk l[k] (List.getElem_mem hlt);generalize l[k]=it at *;have k1:=Zq it id hkk;refine Aa (F3 @s1 @s15 @s16 @s17 @s5 @hlt' @hg @hsz @hT1 @hT2) ?_;refine cl (xs:=[Ao it]) 0 k1 ?_;refine Aa (AA @s1 @s15 @s16 @s17 @s5 @w1 @hT1 @hT2 @hT3 @hT4 @hT5) ?_;exact As (l.length-(k+1)) (by omega) ⟨Ab,Ab,Ab,Ab,k+1,_,Ab,rfl,by omega,rfl⟩
 ·obtain rfl:k=l.length:=by omega
  have hlt':¬(l.length:Int)<(l.length:Int):=by omega
  refine Aa (A6 @s1 @s15 @s16 @s17 @s5 @hlt') ?_;refine cp k4' ?_;refine Aa @s5 ?_;refine DR ?_
  refine run ?_;exact SV
theorem Zjl(ps:List Int)(l:List It.Item)(id:By)(hl:l.length≤1000)(hk:∀x∈l,(x.kind==1)=false):AC prog 56 [BC ps l,.st id] [] (.sl .ro []) []:=by
 have k:=ZfG ps l id hl hk;refine Ai [] [] func56 ?_;refine run ?_;refine Tr 1 k ?_;refine run ?_;exact AQ
theorem Zcd(ps:List Int)(l:List It.Item)(id:By)(gen:Int)(hps:ps.length=4)(hl:l.length≤1000)(hk:∀x∈l,(x.kind==1)=false):AC prog 20 [BC ps l,.st id,.it .i64 gen] [] (.tup [Br CX,.bo false]) []:=by
 have k1:=Ri;have k2:=Zjl ps l id hl hk;refine Ai [19,56,13,14,18] [] func20 ?_;refine Aa @hps ?_;refine cp k1 ?_;refine Aa @hps ?_;refine cp k2 ?_;refine run ?_;refine DR ?_
 refine run ?_;exact Ad
end Pe
end
section
namespace Pe
open Tryz
open Go Go.RowKit Go.Maps Go.Sort Co
set_option maxRecDepth 100000
set_option maxHeartbeats 4000000
theorem O6{w:World}{blk:Nat}{arr:Array Value}{e:TypeId}{fr:Nat×Nat}(f:Array Value→Array Value)(h:w.heap[blk]? = some (.cells arr e fr)):mapBlock w blk f={ w with heap:=w.heap.setIfInBounds blk (.cells (f arr) e fr) }:=by
 unfold mapBlock;congr 1
 apply Array.ext_getElem?
 intro i;rw[Array.getElem?_modify,Array.getElem?_setIfInBounds]
 by_cases hi:blk=i
 ·subst hi
  have :=(Array.getElem?_eq_some_iff.1 h).1
  rw[if_pos rfl,if_pos rfl,if_pos this,h];rfl
 ·rw[if_neg hi,if_neg hi]
theorem Zdi(ss:List By)(h0:ss≠[])(hl:ss.length≤1000000):AC prog 62 [.wr 0 ss.length none] [.row (ss.map AV.st) 9 1] (.tup []) [.row ((ss.mergeSort fun x y=>decide (x≤y)).map AV.st) 9 1]:=by
 refine⟨by kernel_rfl,fun w g cargs hw hargs=>?_⟩
 obtain⟨cv,rfl,hrv⟩:=LV hargs;have hpos:=List.length_pos_iff.2 h0;obtain⟨k1,⟨_,k2⟩,k3⟩:=hw.obj 0 _ rfl;rw[List.length_map,Nat.mul_one]at k2;generalize hn:ss.length=n at *;cases hrv with
 | wr _ _ _ c A hl' hb hw' hc hm h0' hA=>
  obtain⟨rfl,hA⟩:c=g.cap 0∧(0<c→A=some ⟨g.pl 0,0,none⟩):=by
   rcases hA with hA|hA
   ·omega
   ·exact hA
  obtain rfl:=hA (by omega)
  rcases k3 with⟨hcap,hnil⟩|⟨hown,hG,arr,fr,hheap,hfr,hsz,hle,hone,hrel⟩
  ·exact absurd (List.map_eq_nil_iff.1 hnil) h0
  rw[Nat.mul_one]at hsz;rw[List.length_map]at hle;have hcell:∀(j:Nat) (h:j<ss.length),arr[j]? = some (encStr ss[j]):=fun j h=>by
   have hx:arr[j]? = some arr[j]:=Array.getElem?_eq_getElem (by omega)
   have :=hrel j (.st ss[j]) arr[j] (by rw[List.getElem?_map,List.getElem?_eq_getElem h];rfl) hx
   rw[hx];generalize arr[j]=x at this;cases this
   rfl
  have hH:Holds encStr w (g.pl 0) 0 ss.toArray:=fun j hj=>by
   have hj:j<ss.length:=by simpa using hj
   refine⟨?_,?_⟩
   ·rw[Nat.zero_add,cell_of_row w (g.pl 0) j arr _ fr hheap,hcell j hj]
    simp[hj]
   ·unfold World.frozen?
    simp only[hheap];rw[Bool.and_eq_false_iff];by_cases h:fr.1≤0+j
    ·exact .inr (by simp;omega)
    ·exact .inl (by simpa using h)
  have hblk:g.pl 0<w.heap.size:=(Array.getElem?_eq_some_iff.1 hheap).1
  have kc:=AnyM.slices_Sort_string Tryz.sortS (g.pl 0) 0 (g.cap 0) ss w hH hblk (by omega)
  rw[hn]at kc;change Calls prog 62 _ _ _ at kc;refine kc.mono ?_
  rintro r w' ⟨rfl,m,os,rfl⟩
  have hll:(ss.mergeSort fun x y=>decide (x≤y)).length=n:=by rw[List.length_mergeSort,hn]
  generalize (ss.mergeSort fun x y=>decide (x≤y))=so at *
  have hput:∀(j:Nat) v,(putCells encStr 0 so.toArray arr)[j]? = some v→j<so.length→v=encStr (so.getD j []):=fun j v hv hj=>by
   unfold putCells at hv;rw[Array.getElem?_mapIdx]at hv
   obtain⟨x,hx,rfl⟩:=Option.map_eq_some_iff.1 hv;rw[if_pos (by simp;omega)]
   simp only[Nat.sub_zero];congr 1
   rw[List.getD_eq_getElem?_getD,List.getElem?_eq_getElem hj,Option.getD_some]
   simp[hj]
  obtain⟨q1,q2⟩:=hw.put (l:=0) (o:=.row (so.map AV.st) 9 1) (ob:=.cells (putCells encStr 0 so.toArray arr) 9 fr) (by simp) hown hG ⟨k1,⟨by decide,by rw[List.length_map,Nat.mul_one];omega⟩,.inr ⟨hown,hG,putCells encStr 0 so.toArray arr,fr,by simp[hblk],hfr,by rw[Nat.mul_one];simp[putCells];exact hsz,by simp[putCells];omega,fun j v hv hj=>by
    rw[List.length_map]at hj;rw[hput j v hv hj];rfl,fun j u v hu hv=>by
    rw[List.getElem?_map]at hu
    obtain⟨x,hx,rfl⟩:=Option.map_eq_some_iff.1 hu;have hj:=(List.getElem?_eq_some_iff.1 hx).1
    rw[hput j v hv hj,List.getD_eq_getElem?_getD,hx]
    exact .st _ _⟩⟩
  have hm1:=O6 (w:=w) (putCells encStr 0 so.toArray) hheap;rw[←hm1]at q1 q2;have hbel:RowKit.Below (mapBlock w (g.pl 0) (putCells encStr 0 so.toArray)).heap.size (mapBlock w (g.pl 0) (putCells encStr 0 so.toArray)) (grow (putRow encStr (_root_.Go.Sort.ahead w m) (g.pl 0) 0 so.toArray) os):=by
   refine⟨rfl,rfl,rfl,?_,fun k hk=>?_⟩
   ·show(mapBlock w (g.pl 0) (putCells encStr 0 so.toArray)).heap.size≤(_++os).size
    rw[Array.size_append];exact Nat.le_add_right _ _
   ·show((mapBlock w (g.pl 0) (putCells encStr 0 so.toArray)).heap++os)[k]? = _
    rw[Array.getElem?_append_left hk]
  exact⟨_,g,rfl,q1.below hbel,.tup _ _ _ rfl (fun j u v hu hv=>by simp at hu),q2.trans (Evo.below g hbel)⟩
end Pe
end
section
namespace Pe
open Tryz
open Go Go.RowKit Go.Maps Go.Sort Co
set_option maxRecDepth 100000
set_option maxHeartbeats 4000000
theorem Zgt{zs:List By}{x:By}:x∈Lib.compact zs↔x∈zs:=by
 have hget:∀j,j<zs.length→zs.toArray[j]! = zs.getD j []:=fun j hj=>by
  simp[List.getD_eq_getElem?_getD,List.getElem?_eq_getElem hj,hj]
 unfold Lib.compact Lib.compactUpTo;simp only[List.mem_map,List.mem_filter,List.mem_range];constructor
 ·rintro⟨j,⟨hj,_⟩,rfl⟩
  rw[hget j hj,List.getD_eq_getElem?_getD,List.getElem?_eq_getElem hj]
  exact List.getElem_mem hj
 ·intro hx
  obtain⟨j,hj,rfl⟩:=List.mem_iff_getElem.1 hx
  -- the first place of the run
  have:∀j,∀h:j<zs.length,∃i,(i<zs.length∧Lib.keeps zs.toArray i=true)∧zs.toArray[i]! = zs[j]:=by
   intro j;induction j with
   |zero=>exact fun h=>⟨0,⟨h,rfl⟩,by rw[hget 0 h,List.getD_eq_getElem?_getD,List.getElem?_eq_getElem h];rfl⟩
   | succ j ih=>
    intro h;by_cases e:zs.toArray[j+1]! = zs.toArray[j]!
    ·obtain⟨i,hi,he⟩:=ih (by omega)
     refine⟨i,hi,he.trans ?_⟩
     rw[hget _ h,hget _ (by omega),List.getD_eq_getElem?_getD,List.getD_eq_getElem?_getD,List.getElem?_eq_getElem h,List.getElem?_eq_getElem (by omega:j<zs.length)]at e
     exact e.symm
    ·exact⟨j+1,⟨h,Lib.keeps_pos (by simpa using e)⟩,by rw[hget _ h,List.getD_eq_getElem?_getD,List.getElem?_eq_getElem h];rfl⟩
  exact this j hj
theorem Zm(zs:List By):(Lib.compact zs).length≤zs.length:=by
 unfold Lib.compact Lib.compactUpTo;rw[List.length_map];exact Nat.le_trans (List.length_filter_le _ _) (by rw[List.length_range];exact Nat.le_refl _)
theorem UM{w:World}{g:Gh}{es:List AV}{A:Option Addr}{c m:Nat}(h:Rel w g (.sl .ro es) (.slice A es.length c))(hm:m≤es.length):Rel w g (.sl .ro (es.take m)) (.slice A m c):=by
 have hlen:(es.take m).length=m:=by rw[List.length_take];omega
 cases h with
 | sl _ _ _ _ _ sz cu hc hcm hsz hA h1 hr _=>
  have hft:∀j,j<(Ak (es.take m)).length→j<(Ak es).length:=fun j hj=>by
   have e:Ak es=Ak (es.take m)++Ak (es.drop m):=by rw[←J9,List.take_append_drop]
   rw[e,List.length_append];omega
  have hget:∀(j:Nat) u,(Ak (es.take m))[j]? = some u→(Ak es)[j]? = some u:=fun j u hu=>by
   have e:Ak es=Ak (es.take m)++Ak (es.drop m):=by rw[←J9,List.take_append_drop]
   rw[e,List.getElem?_append_left (List.getElem?_eq_some_iff.1 hu).1]
   exact hu
  have :=Rel.sl (w:=w) g .ro (es.take m) A c sz cu (by omega) hcm (fun e he=>hsz e (List.mem_of_mem_take he)) (fun h=>by
   obtain⟨b,o,rfl,hb⟩:=hA (by omega)
   exact⟨b,o,rfl,fun j hj=>hb j (hft j hj)⟩) (fun j hj=>h1 j (hft j hj)) (fun j u hu=>hr j u (hget j u hu)) trivial
  rwa[hlen]at this
theorem Zjc(ss:List By)(h0:ss≠[])(hl:ss.length≤1000000):AC prog 63 [.wr 0 ss.length none] [.row (ss.map AV.st) 9 1] (.sl .ro ((Lib.compact ss).map AV.st)) [.dead]:=by
 refine⟨by kernel_rfl,fun w g cargs hw hargs=>?_⟩
 obtain⟨cv,rfl,hrv⟩:=LV hargs;have hpos:=List.length_pos_iff.2 h0;obtain⟨k1,⟨_,k2⟩,k3⟩:=hw.obj 0 _ rfl;rw[List.length_map,Nat.mul_one]at k2;generalize hn:ss.length=n at *;cases hrv with
 | wr _ _ _ c A hl' hb hw' hc hm h0' hA=>
  obtain⟨rfl,hA⟩:c=g.cap 0∧(0<c→A=some ⟨g.pl 0,0,none⟩):=by
   rcases hA with hA|hA
   ·omega
   ·exact hA
  obtain rfl:=hA (by omega)
  rcases k3 with⟨hcap,hnil⟩|⟨hown,hG,arr,fr,hheap,hfr,hsz,hle,hone,hrel⟩
  ·exact absurd (List.map_eq_nil_iff.1 hnil) h0
  rw[Nat.mul_one]at hsz;rw[List.length_map]at hle;have hcell:∀(j:Nat) (h:j<ss.length),arr[j]? = some (encStr ss[j]):=fun j h=>by
   have hx:arr[j]? = some arr[j]:=Array.getElem?_eq_getElem (by omega)
   have :=hrel j (.st ss[j]) arr[j] (by rw[List.getElem?_map,List.getElem?_eq_getElem h];rfl) hx
   rw[hx];generalize arr[j]=x at this;cases this
   rfl
  have hH:Holds encStr w (g.pl 0) 0 ss.toArray:=fun j hj=>by
   have hj:j<ss.length:=by simpa using hj
   refine⟨?_,?_⟩
   ·rw[Nat.zero_add,cell_of_row w (g.pl 0) j arr _ fr hheap,hcell j hj]
    simp[hj]
   ·unfold World.frozen?
    simp only[hheap];rw[Bool.and_eq_false_iff];by_cases h:fr.1≤0+j
    ·exact .inr (by simp;omega)
    ·exact .inl (by simpa using h)
  have hblk:g.pl 0<w.heap.size:=(Array.getElem?_eq_some_iff.1 hheap).1
  have kc:=Tryz.slices_Compact_string (g.pl 0) 0 (g.cap 0) ss w hH (by omega) (by omega)
  rw[hn]at kc;change Calls prog 63 _ _ _ at kc;refine kc.mono ?_
  have hcl:=Zm ss;rintro r w' ⟨rfl,m,rfl⟩
  obtain⟨so,hso⟩:∃so,so=Lib.compact ss++List.replicate (n-(Lib.compact ss).length) []:=⟨_,rfl⟩
  rw[←hso];have hll:so.length=n:=by rw[hso,List.length_append,List.length_replicate];omega
  have htk:so.take (Lib.compact ss).length=Lib.compact ss:=by rw[hso,List.take_left]
  generalize Lib.compact ss=cs at *;clear hso;have hput:∀(j:Nat) v,(putCells encStr 0 so.toArray arr)[j]? = some v→j<so.length→v=encStr (so.getD j []):=fun j v hv hj=>by
   unfold putCells at hv;rw[Array.getElem?_mapIdx]at hv
   obtain⟨x,hx,rfl⟩:=Option.map_eq_some_iff.1 hv;rw[if_pos (by simp;omega)]
   simp only[Nat.sub_zero];congr 1
   rw[List.getD_eq_getElem?_getD,List.getElem?_eq_getElem hj,Option.getD_some]
   simp[hj]
  obtain⟨q1,q2⟩:=hw.put (l:=0) (o:=.row (so.map AV.st) 9 1) (ob:=.cells (putCells encStr 0 so.toArray arr) 9 fr) (by simp) hown hG ⟨k1,⟨by decide,by rw[List.length_map,Nat.mul_one];omega⟩,.inr ⟨hown,hG,putCells encStr 0 so.toArray arr,fr,by simp[hblk],hfr,by rw[Nat.mul_one];simp[putCells];exact hsz,by simp[putCells];omega,fun j v hv hj=>by
    rw[List.length_map]at hj;rw[hput j v hv hj];rfl,fun j u v hu hv=>by
    rw[List.getElem?_map]at hu
    obtain⟨x,hx,rfl⟩:=Option.map_eq_some_iff.1 hu;have hj:=(List.getElem?_eq_some_iff.1 hx).1
    rw[hput j v hv hj,List.getD_eq_getElem?_getD,hx]
    exact .st _ _⟩⟩
  have hm1:=O6 (w:=w) (putCells encStr 0 so.toArray) hheap;rw[←hm1]at q1 q2;have hbel:RowKit.Below (mapBlock w (g.pl 0) (putCells encStr 0 so.toArray)).heap.size (mapBlock w (g.pl 0) (putCells encStr 0 so.toArray)) (putRow encStr (_root_.Go.Sort.ahead w m) (g.pl 0) 0 so.toArray):=⟨rfl,rfl,rfl,Nat.le_refl _,fun k hk=>rfl⟩
  have q3:=q1.below hbel;have q4:=q2.trans (Evo.below g hbel);have hflat:Ak (so.map AV.st)=so.map AV.st:=by
   clear hll htk hput q1 q2 q3 q4 hbel hm1;induction so with
   |nil=>rfl
   |cons x l ih=>rw[List.map_cons,show Ak (AV.st x::l.map AV.st)=AV.st x::Ak (l.map AV.st)from rfl,ih]
  obtain⟨g',z1,z2,z3⟩:=WF.frz (l:=0) (es:=so.map AV.st) (e:=9) (sz:=1) q3 (by rw[hflat];rfl) (fun x hx=>by obtain⟨y,_,rfl⟩:=List.mem_map.1 hx;rfl) (by rw[hflat,List.all_eq_true];intro x hx;obtain⟨y,_,rfl⟩:=List.mem_map.1 hx;rfl)
  have hwr:Rel (putRow encStr (_root_.Go.Sort.ahead w m) (g.pl 0) 0 so.toArray) g (.wr 0 (so.map AV.st).length none) (.slice (some ⟨g.pl 0,0,none⟩) (so.map AV.st).length (g.cap 0)):=by
   rw[List.length_map,hll];exact .wr g 0 n (g.cap 0) _ hl' hb hw' hc hm (fun _=>⟨_,_,rfl⟩) (.inr ⟨rfl,fun _=>rfl⟩)
  have hsub:=UM (z3 _ hwr) (m:=cs.length) (by rw[List.length_map];omega)
  rw[←List.map_take,htk]at hsub;exact⟨_,g',rfl,z1,hsub,q4.trans z2⟩
end Pe
end
section
namespace Pe
open Tryz
open Go Go.RowKit Go.Maps Go.Sort Co
set_option maxRecDepth 100000
set_option maxHeartbeats 4000000
theorem Zgs{zs:List Int}{x:Int}:x∈Lib.compact zs↔x∈zs:=by
 have hget:∀j,j<zs.length→zs.toArray[j]! = zs.getD j 0:=fun j hj=>by
  simp[List.getD_eq_getElem?_getD,List.getElem?_eq_getElem hj,hj]
 unfold Lib.compact Lib.compactUpTo;simp only[List.mem_map,List.mem_filter,List.mem_range];constructor
 ·rintro⟨j,⟨hj,_⟩,rfl⟩
  rw[hget j hj,List.getD_eq_getElem?_getD,List.getElem?_eq_getElem hj]
  exact List.getElem_mem hj
 ·intro hx
  obtain⟨j,hj,rfl⟩:=List.mem_iff_getElem.1 hx
  -- the first place of the run
  have:∀j,∀h:j<zs.length,∃i,(i<zs.length∧Lib.keeps zs.toArray i=true)∧zs.toArray[i]! = zs[j]:=by
   intro j;induction j with
   |zero=>exact fun h=>⟨0,⟨h,rfl⟩,by rw[hget 0 h,List.getD_eq_getElem?_getD,List.getElem?_eq_getElem h];rfl⟩
   | succ j ih=>
    intro h;by_cases e:zs.toArray[j+1]! = zs.toArray[j]!
    ·obtain⟨i,hi,he⟩:=ih (by omega)
     refine⟨i,hi,he.trans ?_⟩
     rw[hget _ h,hget _ (by omega),List.getD_eq_getElem?_getD,List.getD_eq_getElem?_getD,List.getElem?_eq_getElem h,List.getElem?_eq_getElem (by omega:j<zs.length)]at e
     exact e.symm
    ·exact⟨j+1,⟨h,Lib.keeps_pos (by simpa using e)⟩,by rw[hget _ h,List.getD_eq_getElem?_getD,List.getElem?_eq_getElem h];rfl⟩
  exact this j hj
theorem Zl(zs:List Int):(Lib.compact zs).length≤zs.length:=by
 unfold Lib.compact Lib.compactUpTo;rw[List.length_map];exact Nat.le_trans (List.length_filter_le _ _) (by rw[List.length_range];exact Nat.le_refl _)
theorem Zdf(ss:List Int)(h0:ss≠[])(hl:ss.length≤1000000):AC prog 54 [.wr 0 ss.length none] [.row (ss.map (AV.it .i64)) 3 1] (.tup []) [.row ((ss.mergeSort fun x y=>decide (x≤y)).map (AV.it .i64)) 3 1]:=by
 refine⟨by kernel_rfl,fun w g cargs hw hargs=>?_⟩
 obtain⟨cv,rfl,hrv⟩:=LV hargs;have hpos:=List.length_pos_iff.2 h0;obtain⟨k1,⟨_,k2⟩,k3⟩:=hw.obj 0 _ rfl;rw[List.length_map,Nat.mul_one]at k2;generalize hn:ss.length=n at *;cases hrv with
 | wr _ _ _ c A hl' hb hw' hc hm h0' hA=>
  obtain⟨rfl,hA⟩:c=g.cap 0∧(0<c→A=some ⟨g.pl 0,0,none⟩):=by
   rcases hA with hA|hA
   ·omega
   ·exact hA
  obtain rfl:=hA (by omega)
  rcases k3 with⟨hcap,hnil⟩|⟨hown,hG,arr,fr,hheap,hfr,hsz,hle,hone,hrel⟩
  ·exact absurd (List.map_eq_nil_iff.1 hnil) h0
  rw[Nat.mul_one]at hsz;rw[List.length_map]at hle;have hcell:∀(j:Nat) (h:j<ss.length),arr[j]? = some ((Value.int .i64) ss[j]):=fun j h=>by
   have hx:arr[j]? = some arr[j]:=Array.getElem?_eq_getElem (by omega)
   have :=hrel j (.it .i64 ss[j]) arr[j] (by rw[List.getElem?_map,List.getElem?_eq_getElem h];rfl) hx
   rw[hx];generalize arr[j]=x at this;cases this
   rfl
  have hH:Holds (Value.int .i64) w (g.pl 0) 0 ss.toArray:=fun j hj=>by
   have hj:j<ss.length:=by simpa using hj
   refine⟨?_,?_⟩
   ·rw[Nat.zero_add,cell_of_row w (g.pl 0) j arr _ fr hheap,hcell j hj]
    simp[hj]
   ·unfold World.frozen?
    simp only[hheap];rw[Bool.and_eq_false_iff];by_cases h:fr.1≤0+j
    ·exact .inr (by simp;omega)
    ·exact .inl (by simpa using h)
  have hblk:g.pl 0<w.heap.size:=(Array.getElem?_eq_some_iff.1 hheap).1
  have kc:=AnyM.slices_Sort_int Tryz.sortI (g.pl 0) 0 (g.cap 0) ss w hH hblk (by omega)
  rw[hn]at kc;change Calls prog 54 _ _ _ at kc;refine kc.mono ?_
  rintro r w' ⟨rfl,m,os,rfl⟩
  have hll:(ss.mergeSort fun x y=>decide (x≤y)).length=n:=by rw[List.length_mergeSort,hn]
  generalize (ss.mergeSort fun x y=>decide (x≤y))=so at *
  have hput:∀(j:Nat) v,(putCells (Value.int .i64) 0 so.toArray arr)[j]? = some v→j<so.length→v=(Value.int .i64) (so.getD j 0):=fun j v hv hj=>by
   unfold putCells at hv;rw[Array.getElem?_mapIdx]at hv
   obtain⟨x,hx,rfl⟩:=Option.map_eq_some_iff.1 hv;rw[if_pos (by simp;omega)]
   simp only[Nat.sub_zero];congr 1
   rw[List.getD_eq_getElem?_getD,List.getElem?_eq_getElem hj,Option.getD_some]
   simp[hj]
  obtain⟨q1,q2⟩:=hw.put (l:=0) (o:=.row (so.map (AV.it .i64)) 3 1) (ob:=.cells (putCells (Value.int .i64) 0 so.toArray arr) 3 fr) (by simp) hown hG ⟨k1,⟨by decide,by rw[List.length_map,Nat.mul_one];omega⟩,.inr ⟨hown,hG,putCells (Value.int .i64) 0 so.toArray arr,fr,by simp[hblk],hfr,by rw[Nat.mul_one];simp[putCells];exact hsz,by simp[putCells];omega,fun j v hv hj=>by
    rw[List.length_map]at hj;rw[hput j v hv hj];rfl,fun j u v hu hv=>by
    rw[List.getElem?_map]at hu
    obtain⟨x,hx,rfl⟩:=Option.map_eq_some_iff.1 hu;have hj:=(List.getElem?_eq_some_iff.1 hx).1
    rw[hput j v hv hj,List.getD_eq_getElem?_getD,hx]
    exact .it _ _ _⟩⟩
  have hm1:=O6 (w:=w) (putCells (Value.int .i64) 0 so.toArray) hheap;rw[←hm1]at q1 q2;have hbel:RowKit.Below (mapBlock w (g.pl 0) (putCells (Value.int .i64) 0 so.toArray)).heap.size (mapBlock w (g.pl 0) (putCells (Value.int .i64) 0 so.toArray)) (grow (putRow (Value.int .i64) (_root_.Go.Sort.ahead w m) (g.pl 0) 0 so.toArray) os):=by
   refine⟨rfl,rfl,rfl,?_,fun k hk=>?_⟩
   ·show(mapBlock w (g.pl 0) (putCells (Value.int .i64) 0 so.toArray)).heap.size≤(_++os).size
    rw[Array.size_append];exact Nat.le_add_right _ _
   ·show((mapBlock w (g.pl 0) (putCells (Value.int .i64) 0 so.toArray)).heap++os)[k]? = _
    rw[Array.getElem?_append_left hk]
  exact⟨_,g,rfl,q1.below hbel,.tup _ _ _ rfl (fun j u v hu hv=>by simp at hu),q2.trans (Evo.below g hbel)⟩
theorem Zi9(ss:List Int)(h0:ss≠[])(hl:ss.length≤1000000):AC prog 55 [.wr 0 ss.length none] [.row (ss.map (AV.it .i64)) 3 1] (.sl .ro ((Lib.compact ss).map (AV.it .i64))) [.dead]:=by
 refine⟨by kernel_rfl,fun w g cargs hw hargs=>?_⟩
 obtain⟨cv,rfl,hrv⟩:=LV hargs;have hpos:=List.length_pos_iff.2 h0;obtain⟨k1,⟨_,k2⟩,k3⟩:=hw.obj 0 _ rfl;rw[List.length_map,Nat.mul_one]at k2;generalize hn:ss.length=n at *;cases hrv with
 | wr _ _ _ c A hl' hb hw' hc hm h0' hA=>
  obtain⟨rfl,hA⟩:c=g.cap 0∧(0<c→A=some ⟨g.pl 0,0,none⟩):=by
   rcases hA with hA|hA
   ·omega
   ·exact hA
  obtain rfl:=hA (by omega)
  rcases k3 with⟨hcap,hnil⟩|⟨hown,hG,arr,fr,hheap,hfr,hsz,hle,hone,hrel⟩
  ·exact absurd (List.map_eq_nil_iff.1 hnil) h0
  rw[Nat.mul_one]at hsz;rw[List.length_map]at hle;have hcell:∀(j:Nat) (h:j<ss.length),arr[j]? = some ((Value.int .i64) ss[j]):=fun j h=>by
   have hx:arr[j]? = some arr[j]:=Array.getElem?_eq_getElem (by omega)
   have :=hrel j (.it .i64 ss[j]) arr[j] (by rw[List.getElem?_map,List.getElem?_eq_getElem h];rfl) hx
   rw[hx];generalize arr[j]=x at this;cases this
   rfl
  have hH:Holds (Value.int .i64) w (g.pl 0) 0 ss.toArray:=fun j hj=>by
   have hj:j<ss.length:=by simpa using hj
   refine⟨?_,?_⟩
   ·rw[Nat.zero_add,cell_of_row w (g.pl 0) j arr _ fr hheap,hcell j hj]
    simp[hj]
   ·unfold World.frozen?
    simp only[hheap];rw[Bool.and_eq_false_iff];by_cases h:fr.1≤0+j
    ·exact .inr (by simp;omega)
    ·exact .inl (by simpa using h)
  have hblk:g.pl 0<w.heap.size:=(Array.getElem?_eq_some_iff.1 hheap).1
  have kc:=Tryz.slices_Compact_int (g.pl 0) 0 (g.cap 0) ss w hH (by omega) (by omega)
  rw[hn]at kc;change Calls prog 55 _ _ _ at kc;refine kc.mono ?_
  have hcl:=Zl ss;rintro r w' ⟨rfl,m,rfl⟩
  obtain⟨so,hso⟩:∃so,so=Lib.compact ss++List.replicate (n-(Lib.compact ss).length) 0:=⟨_,rfl⟩
  rw[←hso];have hll:so.length=n:=by rw[hso,List.length_append,List.length_replicate];omega
  have htk:so.take (Lib.compact ss).length=Lib.compact ss:=by rw[hso,List.take_left]
  generalize Lib.compact ss=cs at *;clear hso;have hput:∀(j:Nat) v,(putCells (Value.int .i64) 0 so.toArray arr)[j]? = some v→j<so.length→v=(Value.int .i64) (so.getD j 0):=fun j v hv hj=>by
   unfold putCells at hv;rw[Array.getElem?_mapIdx]at hv
   obtain⟨x,hx,rfl⟩:=Option.map_eq_some_iff.1 hv;rw[if_pos (by simp;omega)]
   simp only[Nat.sub_zero];congr 1
   rw[List.getD_eq_getElem?_getD,List.getElem?_eq_getElem hj,Option.getD_some]
   simp[hj]
  obtain⟨q1,q2⟩:=hw.put (l:=0) (o:=.row (so.map (AV.it .i64)) 3 1) (ob:=.cells (putCells (Value.int .i64) 0 so.toArray arr) 3 fr) (by simp) hown hG ⟨k1,⟨by decide,by rw[List.length_map,Nat.mul_one];omega⟩,.inr ⟨hown,hG,putCells (Value.int .i64) 0 so.toArray arr,fr,by simp[hblk],hfr,by rw[Nat.mul_one];simp[putCells];exact hsz,by simp[putCells];omega,fun j v hv hj=>by
    rw[List.length_map]at hj;rw[hput j v hv hj];rfl,fun j u v hu hv=>by
    rw[List.getElem?_map]at hu
    obtain⟨x,hx,rfl⟩:=Option.map_eq_some_iff.1 hu;have hj:=(List.getElem?_eq_some_iff.1 hx).1
    rw[hput j v hv hj,List.getD_eq_getElem?_getD,hx]
    exact .it _ _ _⟩⟩
  have hm1:=O6 (w:=w) (putCells (Value.int .i64) 0 so.toArray) hheap;rw[←hm1]at q1 q2;have hbel:RowKit.Below (mapBlock w (g.pl 0) (putCells (Value.int .i64) 0 so.toArray)).heap.size (mapBlock w (g.pl 0) (putCells (Value.int .i64) 0 so.toArray)) (putRow (Value.int .i64) (_root_.Go.Sort.ahead w m) (g.pl 0) 0 so.toArray):=⟨rfl,rfl,rfl,Nat.le_refl _,fun k hk=>rfl⟩
  have q3:=q1.below hbel;have q4:=q2.trans (Evo.below g hbel);have hflat:Ak (so.map (AV.it .i64))=so.map (AV.it .i64):=by
   clear hll htk hput q1 q2 q3 q4 hbel hm1;induction so with
   |nil=>rfl
   |cons x l ih=>rw[List.map_cons,show Ak (AV.it .i64 x::l.map (AV.it .i64))=AV.it .i64 x::Ak (l.map (AV.it .i64))from rfl,ih]
  obtain⟨g',z1,z2,z3⟩:=WF.frz (l:=0) (es:=so.map (AV.it .i64)) (e:=3) (sz:=1) q3 (by rw[hflat];rfl) (fun x hx=>by obtain⟨y,_,rfl⟩:=List.mem_map.1 hx;rfl) (by rw[hflat,List.all_eq_true];intro x hx;obtain⟨y,_,rfl⟩:=List.mem_map.1 hx;rfl)
  have hwr:Rel (putRow (Value.int .i64) (_root_.Go.Sort.ahead w m) (g.pl 0) 0 so.toArray) g (.wr 0 (so.map (AV.it .i64)).length none) (.slice (some ⟨g.pl 0,0,none⟩) (so.map (AV.it .i64)).length (g.cap 0)):=by
   rw[List.length_map,hll];exact .wr g 0 n (g.cap 0) _ hl' hb hw' hc hm (fun _=>⟨_,_,rfl⟩) (.inr ⟨rfl,fun _=>rfl⟩)
  have hsub:=UM (z3 _ hwr) (m:=cs.length) (by rw[List.length_map];omega)
  rw[←List.map_take,htk]at hsub;exact⟨_,g',rfl,z1,hsub,q4.trans z2⟩
end Pe
end
section
namespace Pe
open Tryz
open Go Go.RowKit Co Sg Ac It Sl Tp Sr
set_option maxRecDepth 100000
set_option maxHeartbeats 4000000
theorem Zhc:AC prog 195 [.wr 0 0 none,.it .i64 0,.it .i64 0] [.row [] 3 1] (.tup []) [.row [] 3 1]:=by
 refine Ai [201] [] func195 ?_;refine run ?_;refine DR ?_
 refine run ?_;exact Ei rfl
theorem ZfL(d:Int):AC prog 121 [.wr 0 0 none,.it .i64 0,.it .i64 0,.it .i64 d] [.row [] 3 1] (.tup []) [.row [] 3 1]:=by
 have k:=Zhc;refine Ai [] [] func121 ?_;refine run ?_;refine Bn (fun m e S=>e 0=.wr 0 0 none∧e 1=.it .i64 0∧e 2=.it .i64 0∧S=[.row [] 3 1]) 0 ⟨Ab,Ab,Ab,rfl⟩ ?_
 rintro m e S ⟨s0,s1,s2,rfl⟩
 refine Aa (A3 @s0 @s1 @s2) ?_;refine AT k ?_;refine run ?_;exact BI rfl
theorem ZgG:AC prog 122 [.it .u64 0] [] (.it .i64 (BX 0)) []:=by
 have k:=R7 0 (by decide)
 refine Ai [190,204] [] func122 ?_;refine run ?_;refine cp k ?_;refine run ?_;exact Ad
theorem Zdh:AC prog 54 [.wr 0 0 none] [.row [] 3 1] (.tup []) [.row [] 3 1]:=by
 have k1:=ZgG;have k2:=ZfL (BX 0);refine Ai [122] [] func54 ?_;refine run ?_;refine cp k1 ?_;refine run ?_;refine AT k2 ?_;refine run ?_;exact Ei rfl
theorem Zjb:AC prog 55 [.wr 0 0 none] [.row [] 3 1] (.sl .ro []) [.dead]:=by
 refine⟨by kernel_rfl,fun w g cargs hw hargs=>?_⟩
 obtain⟨cv,rfl,hrv⟩:=LV hargs;cases hrv with
 |wr _ _ _ c A hl' hb hw' hc hm h0' hA=>
  have kc:=Tryz.slices_Compact_int_empty A c w;change Calls prog 55 _ _ _ at kc;refine kc.mono ?_
  rintro r w' ⟨rfl,rfl⟩
  exact⟨_,g,rfl,hw.kill 0,.sl _ .ro [] A c 1 (fun _=>undef) hc hm (by simp) (fun h=>absurd h (Nat.lt_irrefl 0)) (by simp[Ak]) (by simp[Ak]) trivial,Evo.refl _ g⟩
theorem Zdg(ss:List Int)(hl:ss.length≤1000000):AC prog 54 [.wr 0 ss.length none] [.row (ss.map (AV.it .i64)) 3 1] (.tup []) [.row ((ss.mergeSort fun x y=>decide (x≤y)).map (AV.it .i64)) 3 1]:=by
 by_cases h:ss=[]
 ·subst h
  rw[List.mergeSort_nil];exact Zdh
 ·exact Zdf ss h hl
theorem Zja(ss:List Int)(hl:ss.length≤1000000):AC prog 55 [.wr 0 ss.length none] [.row (ss.map (AV.it .i64)) 3 1] (.sl .ro ((Lib.compact ss).map (AV.it .i64))) [.dead]:=by
 by_cases h:ss=[]
 ·subst h
  exact Zjb
 ·exact Zi9 ss h hl
theorem Zj4(ps:List Int)(l:List It.Item)(id:By)(gen:Int):AC prog 53 [BC ps l,.st id,.it .i64 gen] [] (.fn (.func 119) [] [.ptr 0 0,.ptr 1 0,.ptr 2 0]) [.cells [AB ps,.sl .ro (l.map Ao)],.cells [.st id],.cells [.it .i64 gen]]:=by
 refine Ai [] [] func53 ?_;refine run ?_;exact BI rfl
theorem Zg8(ps:List Int)(l:List It.Item)(id:By)(gen:Int)(b:Nat)(o0 o1 ol:SObj)(oV oB:List It.Ballot→SObj)
  (kB:AC prog 120 [BC ps l,.st id,.it .i64 gen] [] (.sl .ro ((CN l id gen).map C9)) [])(hbl:(CN l id gen).length≤100)
  (hok:∀acc,([o0,o1,oV acc,.cells [AB ps,.sl .ro (l.map Ao)],.cells [.st id],.cells [.it .i64 gen],oB acc,ol]:Ae).all (SObj.ok 8)=true)
  (hY:∀(acc:List It.Ballot) (x:It.Ballot) (y:SObj),y.ok 0=true→acc.length≤100→CO prog b [C9 x] [o0,o1,oV acc,.cells [AB ps,.sl .ro (l.map Ao)],.cells [.st id],.cells [.it .i64 gen],oB acc,ol,y] (.bo true) [o0,o1,oV (acc++[x]),.cells [AB ps,.sl .ro (l.map Ao)],.cells [.st id],.cells [.it .i64 gen],oB (acc++[x]),ol,y]):
  AC prog 119 [.fn (.yield b) [] [],.ptr 3 0,.ptr 4 0,.ptr 5 0] [o0,o1,oV [],.cells [AB ps,.sl .ro (l.map Ao)],.cells [.st id],.cells [.it .i64 gen],oB [],ol] (.tup []) [o0,o1,oV (CN l id gen),.cells [AB ps,.sl .ro (l.map Ao)],.cells [.st id],.cells [.it .i64 gen],oB (CN l id gen),ol]:=by
 have hsz:=Zj3 (CN l id gen);generalize CN l id gen=B at *;refine Ai [120] [] func119 ?_;refine run ?_;refine cp kB ?_;refine run ?_;refine CG (fun m e S=>e 0=.fn (.yield b) [] []∧e 10=.sl .ro (B.map C9)∧e 11=.it .i64 (B.length:Int) ∧ ∃k:Nat,e 12=.it .i64 (k:Int)∧S=[o0,o1,oV (B.take k),.cells [AB ps,.sl .ro (l.map Ao)],.cells [.st id],.cells [.it .i64 gen],oB (B.take k),ol]∧k≤B.length∧m=B.length-k) B.length _ _ (Aq.refl _ _ _) ⟨Ab,Ab,Ab,0,Ab,rfl,by omega,rfl⟩ ?_
 rintro m e S ⟨s0,s10,s11,k,s12,rfl,hk,rfl⟩
 by_cases hlt:k<B.length
 ·have hg:B[k]? = some B[k]:=List.getElem?_eq_getElem hlt
  have hlt':(k:Int)<(B.length:Int):=by omega
  have h0k:(0:Int)≤(k:Int):=by omega
  have w1:=Cg (k:=k) (by omega)
  have htk:B.take (k+1)=B.take k++[B[k]]:=List.take_succ_eq_append_getElem hlt;have ky:=hY (B.take k) B[k] (.cells (C9 B[k]).cells) rfl (by rw[List.length_take];omega)
  generalize B[k]=x at *;refine Aa (A8 @s0 @s10 @s11 @s12 @hlt' @hg @h0k @hsz) ?_;refine Tx _ _ (show Mu _ _ _ _ _ _ _ _ _ from⟨⟨rfl,rfl⟩,ky⟩) ?_
  refine Aa (A5 @s0 @s10 @s11 @s12 @w1) ?_;refine⟨B.length-(k+1),Aw (Aw (Aw (Aw (fun _=>.junk) 0 (.fn (.yield b) [] [])) 10 (.sl .ro (B.map C9))) 11 (.it .i64 (B.length:Int))) 12 (.it .i64 ((k+1:Nat):Int)),[o0,o1,oV (B.take k++[x]),.cells [AB ps,.sl .ro (l.map Ao)],.cells [.st id],.cells [.it .i64 gen],oB (B.take k++[x]),ol],by omega,?_,Ab,Ab,Ab,k+1,Ab,by rw[htk],by omega,rfl⟩
  refine Aq.pre 8 (S':=[o0,o1,oV (B.take k++[x]),.cells [AB ps,.sl .ro (l.map Ao)],.cells [.st id],.cells [.it .i64 gen],oB (B.take k++[x]),ol]) (T:=[_]) ((((IJ.nil 8 _).cons 0 (.fn (.yield b) [] []) Ab).cons 10 (.sl .ro (B.map C9)) Ab).cons 11 (.it .i64 (B.length:Int)) Ab |>.cons 12 (.it .i64 ((k+1:Nat):Int)) Ab) (hok _)
 ·obtain rfl:k=B.length:=by omega
  have hlt':¬(B.length:Int)<(B.length:Int):=by omega
  have hok':=hok B;rw[List.take_length];refine Aa (A5 @s0 @s10 @s11 @s12 @hlt') ?_;exact Ei hok'
end Pe
end
section
namespace Pe
open Tryz
open Go Go.RowKit Co Sg Ac It Sl Tp Sr
set_option maxRecDepth 100000
set_option maxHeartbeats 4000000
theorem Aq.reserveRowC[Tab](N0:Nat){e:Af}{S:Ae}(l i:Nat){cs:List AV}(hS:S[l]? = some (.cells cs))(hi:cs[i]? = some (.sl .full []))(ty:TypeId){sz:Nat}(hsz:0<sz):Aq N0 e S e (S.set l (.cells (cs.set i (.wr S.length 0 none)))++[.row [] ty sz]):=by
 rintro N w0 g0 a w hn ⟨h1,h2,g,h3,h4,h5⟩
 obtain⟨g',h6,h7,h8⟩:=h3.reserve_row ty hsz;have hlS:=(List.getElem?_eq_some_iff.1 hS).1
 have hic:=(List.getElem?_eq_some_iff.1 hi).1
 have hn3:=h3.nid;have hn6:=h6.nid;rw[List.length_append,List.length_singleton]at hn6;refine⟨h1,h2,g',⟨by rw[List.length_append,List.length_set,List.length_singleton];exact hn6,fun k o hk=>?_,h6.disj,h6.lt,h6.tab⟩,fun t=>(h4 t).le h7.toLe,h5.trans h7⟩
 by_cases hkl:k=l
 ·subst hkl
  rw[List.getElem?_append_left (by rw[List.length_set];exact hlS),List.getElem?_set_self hlS]at hk
  cases hk
  obtain⟨k1,k2,k3,arr,T,fr,k4,k5,k6,k7,k8⟩:=h6.obj k (.cells cs) (J7 hS _);refine⟨k1,k2,k3,arr,T,fr,k4,k5,by rw[List.length_set];exact k6,k7,fun j u v hu hv=>?_⟩
  by_cases hj:j=i
  ·subst hj
   rw[List.getElem?_set_self hic]at hu
   cases hu
   have hr:=k8 j _ v hi hv;cases hr with
   |sl _ _ _ A c sz cu hc hcm hsz hA ho hr hm=>
    obtain rfl:c=0:=hm;exact h8 A
  ·rw[List.getElem?_set_ne (Ne.symm hj)]at hu
   exact k8 j u v hu hv
 ·refine h6.obj k o ?_
  by_cases hkS:k<S.length
  ·rw[List.getElem?_append_left (by rw[List.length_set];exact hkS),List.getElem?_set_ne (Ne.symm hkl)]at hk
   rw[List.getElem?_append_left hkS]
   exact hk
  ·rw[List.getElem?_append_right (by rw[List.length_set];omega),List.length_set]at hk
   rw[List.getElem?_append_right (by omega)]
   exact hk
def DC(claim:By)(B:List It.Ballot):List Int:=(B.filter fun b=>b.claim==claim).map (·.server)
def C1(l:List It.Item)(claim id:By)(gen:Int):List Int:=Lib.compact ((DC claim (CN l id gen)).mergeSort fun x y=>decide (x≤y))
theorem Qn(claim:By)(B:List It.Ballot):(DC claim B).length≤B.length:=by
 unfold DC;rw[List.length_map];exact List.length_filter_le ..
theorem Zcn(claim:By)(B:List It.Ballot)(x:It.Ballot):DC claim (B++[x])=DC claim B++if x.claim==claim then [x.server]else []:=by
 unfold DC;rw[List.filter_append,List.map_append];by_cases h:(x.claim==claim)=true
 ·simp[h]
 ·simp[h]
theorem UZ{o:SObj}{n m:Nat}(h:o.ok n=true)(hm:n≤m):o.ok m=true:=by
 cases o with
 |cells cs=>
  refine List.all_eq_true.2 fun v hv=>?_
  have :=List.all_eq_true.1 h v hv;have :=Ev (v:=.agg [v]) (n:=n) (m:=m) (by simpa[AV.ok,AV.o2] using this) hm
  simpa[AV.ok,AV.o2] using this
 |row cs e sz=>
  refine List.all_eq_true.2 fun v hv=>?_
  have :=List.all_eq_true.1 h v hv;have :=Ev (v:=.agg [v]) (n:=n) (m:=m) (by simpa[AV.ok,AV.o2] using this) hm
  simpa[AV.ok,AV.o2] using this
 |map es=>
  refine List.all_eq_true.2 fun p hp=>?_
  have :=List.all_eq_true.1 h p hp;simp only[Bool.and_eq_true]at *;exact⟨DL this.1 hm,DL this.2 hm⟩
 |loop b D fn es ps asn bdy st=>exact List.all_eq_true.2 fun v hv=>Ev (List.all_eq_true.1 h v hv) hm
 |_=>rfl
theorem UO{S T:Ae}(n:Nat)(hT:T.take n=S)(hn:S.length=n)(h:S.all (SObj.ok n)=true):SubOk (List.range n) T S:=by
 have hid:∀j,j<n→Az (List.range n) j=j:=fun j hj=>by simp[Az,hj]
 refine⟨List.nodup_range,by simpa using hn,fun i o hi=>?_⟩
 have hlt:=(List.getElem?_eq_some_iff.1 hi).1
 have ho:=List.all_eq_true.1 h o (List.mem_of_getElem? hi);rw[List.length_range];refine⟨ho,?_⟩
 rw[Ly ho hid,hid i (by omega),←hi,←hT,List.getElem?_take,if_pos (by omega)]
theorem Mv(l:List Int)(ty:TypeId)(n:Nat):(SObj.row (l.map (AV.it .i64)) ty 1).ok n=true:=List.all_eq_true.2 fun x hx=>by
 obtain⟨y,_,rfl⟩:=List.mem_map.1 hx;rfl
theorem Zj5(ps:List Int)(l:List It.Item)(id:By)(gen:Int)(T:Ae):AC prog 53 [BC ps l,.st id,.it .i64 gen] T (.fn (.func 119) [] [.ptr T.length 0,.ptr (T.length+1) 0,.ptr (T.length+2) 0]) (T++[.cells [AB ps,.sl .ro (l.map Ao)],.cells [.st id],.cells [.it .i64 gen]]):=by
 have h:=(Zj4 ps l id gen).frame (T:=T) [] ⟨List.nodup_nil,rfl,fun i o hi=>by simp at hi⟩ rfl rfl (fun i o hi=>by
  match i,hi with
  |0,hi=>cases hi;rfl
  |1,hi=>cases hi;rfl
  |2,hi=>cases hi;rfl)
 rw[EM (p:=AV.ok 0) rfl (fun v hv=>DG hv (fun i hi=>absurd hi (Nat.not_lt_zero _)))]at h
 have e:ext [] T.length=fun i=>T.length+i:=by funext i;simp[ext]
 rw[e]at h;simpa[AV.ren,AV.r2,AV.r1,AV.r0,SObj.ren,after,Es,Mode.ren,AB] using h
theorem Uw(ps:List Int)(l:List It.Item)(claim id:By)(gen:Int)(hl:l.length≤1000)(hz:∀x∈l,Iz x)(hf:(Du l id gen).length<20)(hd:(l.map It.digest).Nodup):
  AC prog 18 [BC ps l,.st claim,.st id,.it .i64 gen] [] (.sl .ro ((C1 l claim id gen).map (AV.it .i64))) []:=by
 have kB:=Zj6 ps l id gen hl hz hf hd;have hbl:(CN l id gen).length≤100:=by
  unfold CN;rw[List.length_map,IV];omega
 have hvl:=Qn claim (CN l id gen);have kS:=Zdg (DC claim (CN l id gen)) (by omega)
 have kC:=Zja ((DC claim (CN l id gen)).mergeSort fun x y=>decide (x≤y)) (by rw[List.length_mergeSort];omega)
 rw[List.length_mergeSort]at kC;change AC _ _ _ _ (.sl .ro ((C1 l claim id gen).map (AV.it .i64))) _ at kC;have kN:=Zg8 ps l id gen;generalize C1 l claim id gen=R at *;generalize CN l id gen=B at *;refine AC.enterN 29 [] [] func18 rfl (by decide) (by decide) (Nat.le_of_ble_eq_true rfl) (by kernel_rfl) rfl ?_;refine Al ?_
 refine run ?_;refine AT (Zj5 ps l id gen _) ?_;refine run ?_;refine⟨_,_,(Aq.keep 0 ((((JA.nil _).cons 4 (.ptr 0 0) Ab).cons 5 (.ptr 1 0) Ab).cons 9 (.ptr 2 0) Ab |>.cons 14 (.fn (.func 119) [] [.ptr 3 0,.ptr 4 0,.ptr 5 0]) Ab)).trans2 (Aq.reserveRowC 0 2 0 (by rfl) (by rfl) 3 (sz:=1) (by decide)),?_⟩
 have hEok:(Bb 29 (Aw (Aw (Aw (Aw (fun _=>.junk) 4 (.ptr 0 0)) 5 (.ptr 1 0)) 9 (.ptr 2 0)) 14 (.fn (.func 119) [] [.ptr 3 0,.ptr 4 0,.ptr 5 0]))).all (AV.ok 8)=true:=by rfl
 have s4:(Aw (Aw (Aw (Aw (fun _=>.junk) 4 (.ptr 0 0)) 5 (.ptr 1 0)) 9 (.ptr 2 0)) 14 (.fn (.func 119) [] [.ptr 3 0,.ptr 4 0,.ptr 5 0])) 4=.ptr 0 0:=rfl
 have s5:(Aw (Aw (Aw (Aw (fun _=>.junk) 4 (.ptr 0 0)) 5 (.ptr 1 0)) 9 (.ptr 2 0)) 14 (.fn (.func 119) [] [.ptr 3 0,.ptr 4 0,.ptr 5 0])) 5=.ptr 1 0:=rfl
 have s9:(Aw (Aw (Aw (Aw (fun _=>.junk) 4 (.ptr 0 0)) 5 (.ptr 1 0)) 9 (.ptr 2 0)) 14 (.fn (.func 119) [] [.ptr 3 0,.ptr 4 0,.ptr 5 0])) 9=.ptr 2 0:=rfl
 have s14:(Aw (Aw (Aw (Aw (fun _=>.junk) 4 (.ptr 0 0)) 5 (.ptr 1 0)) 9 (.ptr 2 0)) 14 (.fn (.func 119) [] [.ptr 3 0,.ptr 4 0,.ptr 5 0])) 14=.fn (.func 119) [] [.ptr 3 0,.ptr 4 0,.ptr 5 0]:=rfl
 generalize (Aw (Aw (Aw (Aw (fun _=>.junk) 4 (.ptr 0 0)) 5 (.ptr 1 0)) 9 (.ptr 2 0)) 14 (.fn (.func 119) [] [.ptr 3 0,.ptr 4 0,.ptr 5 0]))=E at *
 refine Zld (show ev E (.tmp 14)=_ from s14) (.tup []) [.cells [AB ps,.sl .ro (l.map Ao)],.cells [.st claim],.cells [.wr 6 (DC claim B).length none],.cells [AB ps,.sl .ro (l.map Ao)],.cells [.st id],.cells [.it .i64 gen],.row ((DC claim B).map (AV.it .i64)) 3 1] [] rfl ?_ ?_
 ·intro bk D fn
  refine kN bk (.cells [AB ps,.sl .ro (l.map Ao)]) (.cells [.st claim]) (.loop bk D fn (Bb 29 E) _ _ _ .ready) (fun acc=>.cells [.wr 6 (DC claim acc).length none]) (fun acc=>.row ((DC claim acc).map (AV.it .i64)) 3 1) kB hbl ?_ ?_
  ·intro acc
   have h1:=Mv (DC claim acc) 3 8;show(true&&(true&&(true&&(true&&(true&&(true&&(SObj.ok 8 _&&((Bb 29 E).all (AV.ok 8)&&true))))))))=true
   rw[hEok,h1];rfl
  intro acc x y hy hacc;have hva:=Zcn claim acc x;have hvl':=Qn claim acc;refine CO.enter (es:=Bb 29 E) [] [] 7 rfl rfl (by intro p hp;simp at hp;subst hp;simp[Bb]) rfl (by kernel_rfl) (by kernel_rfl) rfl rfl ?_
  have a9:BH (Bb 29 E) 9=.ptr 2 0:=(Mn E (by omega)).trans s9
  have a5:BH (Bb 29 E) 5=.ptr 1 0:=(Mn E (by omega)).trans s5
  simp only[Cm,Cu,Dh,List.map_cons,List.map_nil,List.map_toArray,List.getElem?_toArray,List.getElem?_cons_zero,List.getElem?_cons_succ,Option.bind_some,Option.bind_none,List.append_eq,List.cons_append,List.nil_append,Rl,OQ]
  refine Aa (an @a5 @a9) ?_;refine⟨rfl,?_⟩
  have hrl:((DC claim acc).map (AV.it .i64)).length=(DC claim acc).length:=List.length_map _;have h1:=fun q=>Mv (DC claim q) 3 9
  have hEok9:(Bb 29 E).all (AV.ok 9)=true:=List.all_eq_true.2 fun u hu=>Ev (List.all_eq_true.1 hEok u hu) (by omega)
  by_cases hc:x.claim=claim
  ·have hb:(x.claim==claim)=true:=by simpa using hc
   rw[hb,if_pos rfl]at hva;rw[hva];have h2:=h1 (acc++[x]);rw[hva]at h2;generalize DC claim acc=V at *;rw[List.length_append,List.map_append,List.length_singleton,List.map_singleton];rw[List.map_append,List.map_singleton]at h2;refine Aa (A4 @a9 @a5 @hc @hrl) ?_;refine⟨_,_,List.range 9,Aq.refl _ _ _,rfl,UO 9 rfl rfl ?_,rfl⟩
   show(true&&(true&&(true&&(true&&(true&&(true&&(SObj.ok 9 _&&((Bb 29 E).all (AV.ok 9)&&(SObj.ok 9 y&&true)))))))))=true
   rw[hEok9,h2,UZ hy (by omega:0≤9)]
   rfl
  ·have hb:(x.claim==claim)=false:=by simpa using hc
   rw[hb,if_neg (by simp),List.append_nil]at hva
   have h2:=h1 acc;rw[hva];refine Aa (A4 @a9 @a5 @hc @hb) ?_;refine⟨_,_,List.range 9,Aq.refl _ _ _,rfl,UO 9 rfl rfl ?_,rfl⟩
   show(true&&(true&&(true&&(true&&(true&&(true&&(SObj.ok 9 _&&((Bb 29 E).all (AV.ok 9)&&(SObj.ok 9 y&&true)))))))))=true
   rw[hEok9,h2,UZ hy (by omega:0≤9)]
   rfl
 ·refine Aa (A3 @s4 @s5 @s9) ?_
  refine Kn 6 kS ?_ (Mv _ _ _) (Mv _ _ _)
  refine Aa (A3 @s4 @s5 @s9) ?_;refine Kn 6 kC ?_ (Mv _ _ _) rfl
  refine run ?_;exact AQ
end Pe
end
section
namespace Pe
open Tryz
open Go Go.RowKit Co Sg Ac It Sl Tp Sr
set_option maxRecDepth 100000
set_option maxHeartbeats 4000000
def GX(l:List It.Item)(id:By)(gen:Int)(c:It.Claim):Bool:=decide (c.gen=gen)&&decide (3≤(C1 l (It.digest (Ax c)) id gen).length)
def KJ(l:List It.Item)(id:By)(gen:Int)(C:List It.Claim):It.Claim×Bool:=match C.find? (GX l id gen)with |some c=>(c,true)|none=>(CX,false)
def D9(l:List It.Item)(id:By)(gen:Int):It.Claim×Bool:=KJ l id gen (claimsP l id)
theorem ZaQ{P:Program}{a b:Nat}{t:TypeId}{e:Af}{S:Ae}{p v1 v2:AV}(h1:e a=p)(h2:e b=v2)(hL:D7 (AJ P t) S p=some v1):Da P [.cell a t,.tmp b] e S=some [v1,v2]:=by
 show(match D7 (AJ P t) S (e a),(some []:Option (List AV)).map (e b :: ·)with |some v,some vs=>some (v::vs)|_,_=>none)=_
 rw[h1,hL,h2];rfl
theorem Zcm(l:List It.Item)(claim id:By)(gen:Int)(hf:(Du l id gen).length<20):(C1 l claim id gen).length≤20:=by
 have h1:=Zl ((DC claim (CN l id gen)).mergeSort fun x y=>decide (x≤y))
 rw[List.length_mergeSort]at h1;have h2:=Qn claim (CN l id gen);have h3:(CN l id gen).length=(Du l id gen).length:=by unfold CN;rw[List.length_map,IV]
 unfold C1;omega
theorem Zcc(ps:List Int)(l:List It.Item)(id:By)(gen:Int)(hps:ps.length=4)(hl:l.length≤1000)(hz:∀x∈l,Iz x)(hfc:(EC l id).length<20)(hfb:(Du l id gen).length<20)(hd:(l.map It.digest).Nodup)(hC:∀c∈claimsP l id,Iz (Ax c)):
  AC prog 20 [BC ps l,.st id,.it .i64 gen] [] (.tup [Br (D9 l id gen).1,.bo (D9 l id gen).2]) []:=by
 have k1:=Ri;have k2:=Zjk ps l id hl hz hfc hd;have kv:=fun claim=>Uw ps l claim id gen hl hz hfb hd
 have hvl:=fun claim=>Zcm l claim id gen hfb
 have hCl:(claimsP l id).length≤100:=by unfold claimsP;rw[List.length_map,IV];omega
 have hsz:=PN (claimsP l id);unfold D9;generalize claimsP l id=C at *;generalize hW:KJ l id gen C=W at *;refine Ai [19,56,13,14,18] [] func20 ?_;refine Aa @hps ?_;refine cp k1 ?_;refine Aa @hps ?_;refine cp k2 ?_;refine run ?_;refine CG (fun m e S=>e 1=.st id∧e 2=.it .i64 gen∧e 3=.ptr 0 0∧e 6=.ptr 1 0∧e 8=.it .i64 3∧e 18=.sl .ro (C.map Br)∧e 19=.it .i64 (C.length:Int) ∧ ∃(k:Nat) (T:Ae),e 20=.it .i64 (k:Int)∧S=.cells [AB ps,.sl .ro (l.map Ao)]::.cells (Br CX).cells::T∧k≤C.length∧KJ l id gen (C.drop k)=W∧m=C.length-k) C.length _ _ (Aq.refl _ _ _)
  ⟨Ab,Ab,Ab,Ab,Ab,Ab,Ab,0,[],Ab,rfl,by omega,hW,rfl⟩ ?_
 rintro m e S ⟨s1,s2,s3,s6,s8,s18,s19,k,T,s20,rfl,hk,hw,rfl⟩
 have hT1:∀y:SObj,(T++[y])[T.length]? = some y:=fun y=>by simp
 have hT2:∀y z:SObj,(T++[y]).set T.length z=T++[z]:=fun y z=>by simp
 by_cases hlt:k<C.length
 ·have hg:C[k]? = some C[k]:=List.getElem?_eq_getElem hlt
  have hlt':(k:Int)<(C.length:Int):=by omega
  have h0k:(0:Int)≤(k:Int):=by omega
  have w1:=Cg (k:=k) (by omega)
  have izk:=hC C[k] (List.getElem_mem hlt);rw[List.drop_eq_getElem_cons hlt]at hw;unfold KJ at hw;rw[List.find?_cons]at hw
  generalize C[k]=c at *;have k3:=Hg c;have k4:=Gs _ izk;have k5:=kv (It.digest (Ax c));have hv5:=hvl (It.digest (Ax c));by_cases hgn:c.gen=gen
  ·have e1:GX l id gen c=decide (3≤(C1 l (It.digest (Ax c)) id gen).length):=by unfold GX;rw[decide_eq_true hgn,Bool.true_and]
   rw[e1]at hw;generalize It.digest (Ax c)=d at *;generalize C1 l d id gen=V at *;subst hgn;refine Aa (an @s1 (an @s2 (an @s3 (AA @s6 @s8 @s18 @s19 @s20 @hlt' @hg @h0k @hsz @hT1 @hT2)))) ?_;refine cp k3 ?_;refine Aa (F3 @s1 @s2 @s3 @s6 @s8 @s18 @s19 @s20 @hT1 @hT2) ?_;refine cp k4 ?_;refine Aa (F3 @s1 @s2 @s3 @s6 @s8 @s18 @s19 @s20 @hT1 @hT2) ?_;refine cp k5 ?_;by_cases h3:3≤V.length
   ·have h3':(3:Int)≤(V.length:Int):=by omega
    rw[decide_eq_true h3]at hw;subst hw;refine Aa (AA @s1 @s2 @s3 @s6 @s8 @s18 @s19 @s20 @hT1 @hT2 @h3') ?_;exact AQ (h:=ZaQ (p:=.ptr 1 0) Ab Ab rfl)
   ·have h3':¬(3:Int)≤(V.length:Int):=by omega
    rw[decide_eq_false h3]at hw;refine Aa (an @s1 (AA @s2 @s3 @s6 @s8 @s18 @s19 @s20 @hT1 @hT2 @h3' @w1)) ?_;exact As (C.length-(k+1)) (by omega) ⟨Ab,Ab,Ab,Ab,Ab,Ab,Ab,k+1,_,Ab,rfl,by omega,hw,rfl⟩
  ·have e1:GX l id gen c=false:=by unfold GX;rw[decide_eq_false hgn,Bool.false_and]
   rw[e1]at hw;refine Aa (an @s1 (an @s2 (an @s3 (an @s6 (an @s8 (AA @s18 @s19 @s20 @hlt' @hg @h0k @hsz @hT1 @hT2 @hgn @w1)))))) ?_;exact As (C.length-(k+1)) (by omega) ⟨Ab,Ab,Ab,Ab,Ab,Ab,Ab,k+1,_,Ab,rfl,by omega,hw,rfl⟩
 ·obtain rfl:k=C.length:=by omega
  have hlt':¬(C.length:Int)<(C.length:Int):=by omega
  rw[List.drop_length]at hw;subst hw;refine Aa (A9 @s1 @s2 @s3 @s6 @s8 @s18 @s19 @s20 @hlt') ?_;exact AQ (h:=ZaQ (p:=.ptr 1 0) Ab Ab rfl)
end Pe
end
section
namespace Ho
open Tryz
open Go Co Sg Ac It Tp
set_option maxRecDepth 100000
def QL:List Sig:=[⟨852021808096126293,2252545019035498536⟩,⟨1994546194553266399,1034149127779562171⟩,⟨222308799385313156,1105138050943358386⟩,⟨1522726180020857614,93435446947661833⟩,⟨927173420063916726,262809415066151424⟩,⟨1652276548882587913,1992358871159003539⟩,⟨1063386623574957578,1471564792946518214⟩,⟨1788448034206494061,1075200610937744966⟩,⟨1920002970661686962,532855879996804034⟩,⟨446469565964294908,1185409087906339230⟩,⟨1209724766755668848,1850854808456305679⟩,⟨153723772835237160,634799039119689442⟩]
theorem Zd7:(List.range 12).map (fun j=>Do rL (C6 (Ax (E8 Aj ((2+j / 4:Nat):Int) (Dp (j / 4)) ((j % 4:Nat):Int) Nk 10))))=QL:=by decide +kernel
end Ho
end
section
namespace Ho
open Tryz
open Go Co Sg Ac It Tp
set_option maxRecDepth 100000
theorem ZcS:(List.range 12).map (fun j=>It.digest (Ax { E8 Aj ((2+j / 4:Nat):Int) (Dp (j / 4)) ((j % 4:Nat):Int) Nk 10 with sig:=QL.getD j A0 }))=(dC.drop 0).take 12:=by decide +kernel
theorem ZiV{j:Nat}(hj:j<12):It.digest (Ax (Ca 0 (j / 4) (j % 4)))=((dC.drop 0).take 12).getD j []:=by
 have h:=Hp Zd7 A0 hj;have e:Ca 0 (j / 4) (j % 4)={ E8 Aj ((2+j / 4:Nat):Int) (Dp (j / 4)) ((j % 4:Nat):Int) Nk 10 with sig:=QL.getD j A0 }:=by
  rw[←h];rfl
 rw[e];exact Hp ZcS [] hj
end Ho
end
section
namespace Ho
open Tryz
open Go Co Sg Ac It Tp
set_option maxRecDepth 100000
def QK:List Sig:=[⟨1859506181747081623,972310791496177449⟩,⟨2013914621881205724,1621755990616700893⟩,⟨815709586015488659,1736749865202094314⟩,⟨2079088690677119078,393773898553003425⟩,⟨1584072727213826894,1079938867356236247⟩,⟨773221031444531748,846736789917754577⟩,⟨1271555583837712202,1062201017078442194⟩,⟨2151784720853352762,1611911163587973986⟩,⟨679267758572231495,2098185751790478600⟩,⟨1362138898004934200,1715157827060350438⟩,⟨383970549924371902,572152792622838291⟩,⟨705334799986473825,1543915661714437489⟩]
theorem Zd6:(List.range 12).map (fun j=>Do rL (C6 (Ax (E8 Aj ((2+j / 4:Nat):Int) (Dp (j / 4)) ((j % 4:Nat):Int) Nj 11))))=QK:=by decide +kernel
end Ho
end
section
namespace Ho
open Tryz
open Go Co Sg Ac It Tp
set_option maxRecDepth 100000
theorem ZcR:(List.range 12).map (fun j=>It.digest (Ax { E8 Aj ((2+j / 4:Nat):Int) (Dp (j / 4)) ((j % 4:Nat):Int) Nj 11 with sig:=QK.getD j A0 }))=(dC.drop 12).take 12:=by decide +kernel
theorem ZiU{j:Nat}(hj:j<12):It.digest (Ax (Ca 1 (j / 4) (j % 4)))=((dC.drop 12).take 12).getD j []:=by
 have h:=Hp Zd6 A0 hj;have e:Ca 1 (j / 4) (j % 4)={ E8 Aj ((2+j / 4:Nat):Int) (Dp (j / 4)) ((j % 4:Nat):Int) Nj 11 with sig:=QK.getD j A0 }:=by
  rw[←h];rfl
 rw[e];exact Hp ZcR [] hj
end Ho
end
section
namespace Ho
open Tryz
open Go Co Sg Ac It Tp
set_option maxRecDepth 100000
def QJ:List Sig:=[⟨1718479406035436143,1246740806793957226⟩,⟨1447027293921231328,2018898369992818178⟩,⟨1001703851367897016,426977656933622798⟩,⟨1503710655878303766,1540562739507022592⟩,⟨1068512535200501822,2012374099949950518⟩,⟨831186094633575056,659553027456856328⟩,⟨934563893986932997,1716966260567516716⟩,⟨91797391462549034,842080702090714010⟩,⟨2116633996513386325,1593868032344358441⟩,⟨1437863110780185382,471495662174620602⟩,⟨1316141019530836316,51942127823114206⟩,⟨2058637313352670128,1884619778524261111⟩]
theorem Zd5:(List.range 12).map (fun j=>Do rL (C6 (Ax (E8 Aj ((2+j / 4:Nat):Int) (Dp (j / 4)) ((j % 4:Nat):Int) Ni 12))))=QJ:=by decide +kernel
end Ho
end
section
namespace Ho
open Tryz
open Go Co Sg Ac It Tp
set_option maxRecDepth 100000
theorem ZcQ:(List.range 12).map (fun j=>It.digest (Ax { E8 Aj ((2+j / 4:Nat):Int) (Dp (j / 4)) ((j % 4:Nat):Int) Ni 12 with sig:=QJ.getD j A0 }))=(dC.drop 24).take 12:=by decide +kernel
theorem ZiT{j:Nat}(hj:j<12):It.digest (Ax (Ca 2 (j / 4) (j % 4)))=((dC.drop 24).take 12).getD j []:=by
 have h:=Hp Zd5 A0 hj;have e:Ca 2 (j / 4) (j % 4)={ E8 Aj ((2+j / 4:Nat):Int) (Dp (j / 4)) ((j % 4:Nat):Int) Ni 12 with sig:=QJ.getD j A0 }:=by
  rw[←h];rfl
 rw[e];exact Hp ZcQ [] hj
end Ho
end
section
namespace Ho
open Tryz
open Go Co Sg Ac It Tp
set_option maxRecDepth 100000
theorem Td:(dC++[ND,Ti,Tf,NA,NC,PK]).Nodup:=by decide +kernel
theorem PL:dC.length=36:=rfl
theorem PO{i b h:Nat}(hi:i<3)(hb:b<3)(hh:h<4):It.digest (Ax (Ca i b h))=dC.getD (12*i+(4*b+h)) []:=by
 have key:∀j,j<12→It.digest (Ax (Ca i (j / 4) (j % 4)))=((dC.drop (12*i)).take 12).getD j []:=fun j hj=>by
  match i,hi with
  |0,_=>exact ZiV hj
  |1,_=>exact ZiU hj
  |2,_=>exact ZiT hj
 have h1:=key (4*b+h) (by omega)
 rw[show(4*b+h) / 4=b by omega,show(4*b+h) % 4=h by omega]at h1
 rw[h1,List.getD_eq_getElem?_getD,List.getD_eq_getElem?_getD,List.getElem?_take_of_lt (by omega),List.getElem?_drop]
end Ho
end
section
namespace Ho
open Tryz
open Go Co Sg Ac It Tp
set_option maxRecDepth 100000
theorem RN{id:By}{L:List Ac.Act}{a:Ac.Act}(h:CF id L)(hne:L≠[])(hr:Ac.right a=true)(ha:a.author=id)(hs:a.seq=(L.length:Int))(hp:a.prev=(AF id L).prev)(hk:a.kind≠0)(ho:a.kind≠6∧a.kind≠13∧a.kind≠14)(hv:B0 (Cy (AF id L)).pub a=true):CF id (L++[a]):=
 Ws h (by
  have hl:¬L.length=0:=fun e=>hne (List.eq_nil_of_length_eq_zero e)
  unfold GK;rw[if_neg hne];refine⟨?_,hv⟩
  unfold Bp FO;rw[J8,ED,hr,if_pos ho];simp only[ha,hs,hp,hk,hl,decide_true,Bool.and_true,Bool.and_self])
theorem RL{id:By}{L:List Ac.Act}(h:CF id L)(n:Nat):CF id (L.take n):=fun j a hj=>by
 rw[List.getElem?_take]at hj
 split at hj
 ·rename_i hjn
  have :=h j a hj;rwa[List.take_take,Nat.min_eq_left (by omega)]
 ·cases hj
theorem Vl{id:By}{L A:List Ac.Act}{cl:It.Claim}{a:Ac.Act}{b:Nat}(h:CF id L)(hp:A.Perm L)(hb0:0<b)(hb:b≤L.length)(hbase:cl.base=(b:Int))(hprev:cl.prev=(AF id (L.take b)).prev)
  (E3:FH (L.take b)=some a)(hcl:It.claimed a.m cl=true)(hdg:It.digest (Ax cl)≠cl.prev):
  ∀(n j:Nat),0<j→j≤b→b+2≤n+j→G6 (fun g=>if g=0 then some cl else none) A n (AF id (L.take j)) (EJ (AF id (L.take b)) cl)
 |0,j,_,h1,h2=>by omega
 | n +1,j,h0,h1,h2=>by
  have hnd:A.Nodup:=hp.nodup_iff.2 (OX h);have hne:L.take j≠[]:=fun e=>by
   have :=congrArg List.length e;rw[List.length_take,List.length_nil]at this;omega
  have htl:(L.take j).length=j:=by rw[List.length_take];omega
  unfold G6;simp only[Ma,if_true];by_cases hj:j<b
  ·have ht:FG (AF id (L.take j)) (some cl)=none:=by
    unfold FG;simp only
    rw[if_neg];rintro⟨e,_⟩
    rw[hbase,ED,htl]at e;omega
   rw[ht];simp only
   have hg:L[j]? = some L[j]:=List.getElem?_eq_getElem (by omega)
   have hs:=h j _ hg;unfold GK at hs;rw[if_neg hne]at hs;have hc:BD A (AF id (L.take j))=[L[j]]:=by
    refine Md hnd (hp.mem_iff.2 (List.getElem_mem (by omega))) (by rw[Bool.and_eq_true];exact hs) fun x hx hpx=>?_
    rw[Bool.and_eq_true]at hpx;have h3:=(Gp hpx.1).2.2.1;rw[ED,htl]at h3;exact OW h (hp.mem_iff.1 hx) (List.getElem_mem (by omega)) (by rw[h3,(EY h hg).1])
   rw[hc];simp only
   rw[←Pp,←List.take_succ_eq_append_getElem (by omega)]
   exact Vl h hp hb0 hb hbase hprev E3 hcl hdg n (j+1) (by omega) (by omega) (by omega)
  ·have:j=b:=by omega
   subst this;have ht:FG (AF id (L.take j)) (some cl)=some cl:=by
    unfold FG;simp only
    rw[if_pos];exact⟨by rw[hbase,ED,htl],hprev,by rw[ED,E3];exact hcl⟩
   rw[ht];simp only
   obtain⟨m,rfl⟩:∃m,n=m+1:=⟨n-1,by omega⟩
   unfold G6;have hgen:(EJ (AF id (L.take j)) cl).gen=1:=by
    show(AF id (L.take j)).gen+1=1
    rw[Ma];rfl
   rw[hgen,if_neg (by decide)]
   rw[show FG (EJ (AF id (L.take j)) cl) none=none from rfl]
   simp only
   have hc:BD A (EJ (AF id (L.take j)) cl)=[]:=by
    rw[BD,List.filter_eq_nil_iff];intro x hx hpx;rw[Bool.and_eq_true]at hpx;have h3:=(Gp hpx.1).2.2.1;have h4:=(Gp hpx.1).2.2.2.1;have h3':x.seq=(j:Int):=by
     rw[h3];show((AF id (L.take j)).acts.length:Int)=_
     rw[ED,htl]
    obtain⟨i,hi⟩:=List.mem_iff_getElem?.1 (hp.mem_iff.1 hx);have h5:=(EY h hi).1;have hij:i=j:=by omega
    subst hij;have hs:=h i _ hi;unfold GK at hs;rw[if_neg hne]at hs;have h6:=(Gp hs.1).2.2.2.1;exact hdg (by rw[hprev,←h6,h4];rfl)
   rw[hc];simp only
   have h1:=Pq id (L.take j);have h2:=Ma id (L.take j);generalize AF id (L.take j)=c at *;cases c
   simp only at h1 h2
   subst h1 h2;rfl
def LH:List Ac.Act:=[BN,B5,ET,Fz]
theorem Sp:Cl Aj BN=true:=by
 unfold Cl;rw[show B0 BN.n BN=true from Zcz,show Ds BN.n=Aj from XH]
 decide
theorem Sn:Cl Dt Bl=true:=by
 unfold Cl;rw[show B0 Bl.n Bl=true from Zcy,show Ds Bl.n=Dt from XG]
 decide
theorem Xx:Cl DU EG=true:=by
 unfold Cl;rw[show B0 EG.n EG=true from Zcx,show Ds EG.n=DU from XF]
 decide
theorem JW{id:By}{a:Ac.Act}(h:Cl id a=true):CF id [a]:=by
 have :=Ws (OY id) (a:=a) (by unfold GK;rw[if_pos rfl];exact h)
 exact this
theorem RO:CF Aj LH:=by
 have h1:CF Aj [BN]:=JW Sp;have h2:=RN (a:=B5) h1 (by simp) VL rfl rfl ((L9 Aj [] BN).trans Mg).symm (by decide) (by decide) Zcu
 have h3:=RN (a:=ET) h2 (by simp) VN rfl rfl ((L9 Aj [BN] B5).trans Nz).symm (by decide) (by decide) Zcw
 exact RN (a:=Fz) h3 (by simp) VM rfl rfl ((L9 Aj [BN,B5] ET).trans NB).symm (by decide) (by decide) Zcv
def cH(m:Nat):Chn:=AF Aj (LH.take (2+m))
theorem Ro{b:Nat}(hb:b<3):(AF Aj (LH.take (2+b))).prev=Dp b:=by
 match b,hb with
 |0,_=>exact(L9 Aj [BN] B5).trans Nz
 |1,_=>exact(L9 Aj [BN,B5] ET).trans NB
 |2,_=>exact(L9 Aj [BN,B5,ET] Fz).trans PI
theorem Xi{b:Nat}(hb:b<4):(AF Aj (LH.take (1+b))).keys=[⟨0,Cc.pub,0⟩]:=by
 match b,hb with
 |0,_=>rfl
 |1,_=>rfl
 |2,_=>rfl
 |3,_=>rfl
theorem Vb{b:Nat}(hb:b<3):FH (LH.take (2+b))=some B5:=by
 match b,hb with
 |0,_=>rfl
 |1,_=>rfl
 |2,_=>rfl
end Ho
end
section
namespace Pe
open Tryz
open Go Go.RowKit Co Sg Ac It Sl Tp Sr
set_option maxRecDepth 100000
theorem Zi8{zs:List Int}(hs:zs.Pairwise (· ≤ ·)):(Lib.compact zs).Pairwise (· < ·):=by
 have hget:∀j (hj:j<zs.length),zs.toArray[j]! = zs[j]:=fun j hj=>by simp[hj]
 unfold Lib.compact Lib.compactUpTo;rw[List.pairwise_map];have hr:((List.range zs.length).filter (Lib.keeps zs.toArray)).Pairwise (· < ·):=List.pairwise_lt_range.filter _
 refine hr.imp_of_mem ?_
 intro i j hi hj hij;obtain⟨hi1,_⟩:=List.mem_filter.1 hi;obtain⟨hj1,hj2⟩:=List.mem_filter.1 hj;have hi':=List.mem_range.1 hi1;have hj':=List.mem_range.1 hj1;unfold Lib.keeps at hj2;have hne:zs.toArray[j]! ≠ zs.toArray[j-1]! :=by
  rcases of_decide_eq_true hj2 with h|h
  ·omega
  ·exact h
 rw[hget j hj',hget (j-1) (by omega)]at hne
 rw[hget i hi',hget j hj'];have h1:zs[j-1]≤zs[j]:=List.pairwise_iff_getElem.1 hs _ _ (by omega) hj' (by omega)
 have h2:zs[i]≤zs[j-1]:=by
  by_cases e:i=j-1
  ·subst e;omega
  ·exact List.pairwise_iff_getElem.1 hs _ _ hi' (by omega) (by omega)
 omega
theorem Uv(l:List It.Item)(claim id:By)(gen:Int):(C1 l claim id gen).Pairwise (· < ·):=by
 unfold C1;refine Zi8 ?_
 have :=List.pairwise_mergeSort (le:=fun x y:Int=>decide (x≤y)) (fun a b c h1 h2=>decide_eq_true (Int.le_trans (of_decide_eq_true h1) (of_decide_eq_true h2))) (fun a b=>by rcases Int.le_total a b with h|h<;>simp[h]) (DC claim (CN l id gen))
 exact this.imp fun h=>of_decide_eq_true h
theorem ZcD{l m:List Int}(hl:l.Pairwise (· < ·))(hm:m.Pairwise (· < ·))(h1:∀x∈l,0≤x∧x≤3)(h2:∀x∈m,0≤x∧x≤3)(n1:3≤l.length)(n2:3≤m.length):∃x,x∈l∧x∈m∧x<3:=by
 match l,m,n1,n2 with
 |a::b::c::_,a'::b'::c'::_,_,_=>
  have ha:=h1 a (by simp);have hb:=h1 b (by simp);have hc:=h1 c (by simp)
  have ha':=h2 a' (by simp);have hb':=h2 b' (by simp);have hc':=h2 c' (by simp)
  have q1:a<b:=(List.pairwise_cons.1 hl).1 b (by simp)
  have q2:b<c:=(List.pairwise_cons.1 (List.pairwise_cons.1 hl).2).1 c (by simp)
  have q1':a'<b':=(List.pairwise_cons.1 hm).1 b' (by simp)
  have q2':b'<c':=(List.pairwise_cons.1 (List.pairwise_cons.1 hm).2).1 c' (by simp)
  by_cases e1:a=a'
  ·exact⟨a,by simp,by simp[e1],by omega⟩
  by_cases e2:b=b'
  ·exact⟨b,by simp,by simp[e2],by omega⟩
  by_cases e3:a=b'
  ·exact⟨a,by simp,by simp[e3],by omega⟩
  by_cases e4:b=a'
  ·exact⟨b,by simp,by simp[e4],by omega⟩
  exfalso;omega
theorem RZ{l:List It.Item}{claim id:By}{gen x:Int}(h:x∈C1 l claim id gen):∃b∈CN l id gen,b.claim=claim∧b.server=x:=by
 unfold C1 at h;rw[Zgs,List.mem_mergeSort]at h;unfold DC at h;obtain⟨b,hb,rfl⟩:=List.mem_map.1 h;obtain⟨h1,h2⟩:=List.mem_filter.1 hb;exact⟨b,h1,by simpa using h2,rfl⟩
theorem R0{l:List It.Item}{id:By}{gen:Int}{b:It.Ballot}(h:b∈CN l id gen):∃it∈l,it.kind=2∧it.ballot=b:=by
 unfold CN at h;obtain⟨f,hf,rfl⟩:=List.mem_map.1 h;have hf':=(Lw (lt:=AE) _).mem_iff.1 hf;unfold Du at hf';obtain⟨it,hit,rfl⟩:=List.mem_map.1 hf';obtain⟨h1,h2⟩:=List.mem_filter.1 hit;unfold Gl at h2;rw[Bool.and_eq_true,Bool.and_eq_true,Bool.and_eq_true]at h2;exact⟨it,h1,by simpa using h2.1.1.1,rfl⟩
theorem ZfV{l:List It.Item}{id:By}{d d':By}(hs:∀it∈l,it.kind=2→0≤it.ballot.server∧it.ballot.server≤3)
  (hv:∀x∈l,∀y∈l,x.kind=2→y.kind=2→x.ballot.server=y.ballot.server→x.ballot.server<3→x.ballot.claim=y.ballot.claim)
  (h1:3≤(C1 l d id 0).length)(h2:3≤(C1 l d' id 0).length):d=d':=by
 have hr:∀d,∀x∈C1 l d id 0,0≤x∧x≤3:=fun d x hx=>by
  obtain⟨b,hb,_,rfl⟩:=RZ hx;obtain⟨it,hit,hk,rfl⟩:=R0 hb;exact hs it hit hk
 obtain⟨x,hx,hx',hlt⟩:=ZcD (Uv l d id 0) (Uv l d' id 0) (hr d) (hr d') h1 h2;obtain⟨b,hb,e1,e2⟩:=RZ hx;obtain⟨b',hb',e1',e2'⟩:=RZ hx';obtain⟨it,hit,hk,rfl⟩:=R0 hb;obtain⟨it',hit',hk',rfl⟩:=R0 hb';rw[←e1,←e1'];exact hv it hit it' hit' hk hk' (by rw[e2,e2']) (by rw[e2];exact hlt)
theorem ZhY{α:Type _}{p:α→Bool}{l m:List α}(h:l.Perm m)(hu:∀x∈l,∀y∈l,p x=true→p y=true→x=y):l.find? p=m.find? p:=by
 cases hl:l.find? p with
 |none=>
  symm;rw[List.find?_eq_none]at hl ⊢
  exact fun x hx=>hl x (h.mem_iff.2 hx)
 |some x=>
  have hx:=List.mem_of_find?_eq_some hl
  have px:=List.find?_some hl
  cases hm:m.find? p with
  |none=>exact absurd px (List.find?_eq_none.1 hm x (h.mem_iff.1 hx))
  |some y=>rw[hu x hx y (h.mem_iff.2 (List.mem_of_find?_eq_some hm)) px (List.find?_some hm)]
end Pe
end
section
namespace Pe
open Tryz
open Go Go.RowKit Co Sg Ac It Sl Tp
set_option maxRecDepth 100000
set_option maxHeartbeats 8000000
def Gm(l:List It.Item):List By:=Lib.compact ((l.map fun it=>it.act.author).mergeSort fun x y=>decide (x≤y))
theorem Zgr{l:List It.Item}{x:By}:x∈Gm l↔x∈l.map fun it=>it.act.author:=by
 unfold Gm;rw[Zgt,List.mem_mergeSort]
theorem Zhq(l:List It.Item):(Gm l).length≤l.length:=by
 have :=Zm ((l.map fun it=>it.act.author).mergeSort fun x y=>decide (x≤y))
 rw[List.length_mergeSort,List.length_map]at this;exact this
theorem Zjr(F:By→Chn)(l:List By):AH 6 (l.map fun id=>AN (F id))=true:=BM 6 (fun id=>AN (F id)) (fun _=>rfl) _
theorem QA(l:List By)(ty:TypeId)(n:Nat):(SObj.row (l.map AV.st) ty 1).ok n=true:=List.all_eq_true.2 fun x hx=>by
 obtain⟨y,_,rfl⟩:=List.mem_map.1 hx;rfl
theorem Zkk(ps:List Int)(l:List It.Item)(F:By→Chn)(h0:l≠[])(hl:l.length≤100)(hk:∀x∈l,(x.kind==0)=true)
  (kF:∀id∈Gm l,AC prog 8 [BC ps l,.st id] [] (AN (F id)) []∧(F id).acts≠[]∧(F id).acts.length≤1000):
  AC prog 26 [BC ps l] [] (.sl .ro ((Gm l).map fun id=>AN (F id))) []:=by
 have hsz:=GV l;have hne:(l.map fun it=>it.act.author)≠[]:=fun e=>h0 (List.map_eq_nil_iff.1 e)
 have ksort:=Zdi (l.map fun it=>it.act.author) hne (by rw[List.length_map];omega)
 have kcomp:=Zjc ((l.map fun it=>it.act.author).mergeSort fun x y=>decide (x≤y)) (fun e=>hne (by have :=congrArg List.length e;rw[List.length_mergeSort,List.length_nil]at this;exact List.eq_nil_of_length_eq_zero this)) (by rw[List.length_mergeSort,List.length_map];omega)
 rw[List.length_mergeSort]at kcomp;change AC _ _ _ _ (.sl .ro ((Gm l).map AV.st)) _ at kcomp;rw[List.length_map]at ksort kcomp;have hUl:=Zhq l;generalize hU:Gm l=U at *;clear hU;refine Ai [8] [] func26 ?_;refine run ?_;refine CG (fun m e S=>e 1=.ptr 0 0∧e 2=.sl .full []∧e 11=.sl .ro (l.map Ao)∧e 12=.it .i64 (l.length:Int) ∧ ∃(k:Nat) (T:Ae),e 13=.it .i64 (k:Int)∧e 3=.wr 1 k none∧S=.cells [AB ps,.sl .ro (l.map Ao)]::.row ((l.take k).map fun it=>AV.st it.act.author) 9 1::T∧k≤l.length∧m=l.length-k) l.length _ _ (Aq.reserveRowT 0 3 (by rfl) 9 (sz:=1) (by decide))
  ⟨Ab,Ab,Ab,Ab,0,[],Ab,Ab,rfl,by omega,rfl⟩ ?_
 rintro m e S ⟨s1,s2,s11,s12,k,T,s13,s3,rfl,hkl,rfl⟩
 have hT1:∀y:SObj,(T++[y])[T.length]? = some y:=fun y=>by simp
 have hT2:∀y z:SObj,(T++[y]).set T.length z=T++[z]:=fun y z=>by simp
 have hrl:((l.take k).map fun it=>AV.st it.act.author).length=k*1:=by rw[List.length_map,List.length_take];omega
 by_cases hlt:k<l.length
 ·have hg:l[k]? = some l[k]:=List.getElem?_eq_getElem hlt
  have hlt':(k:Int)<(l.length:Int):=by omega
  have w1:=Cg (k:=k) (by omega)
  have hk0:=hk l[k] (List.getElem_mem hlt);have htk:(l.take (k+1)).map (fun it=>AV.st it.act.author)=(l.take k).map (fun it=>AV.st it.act.author)++[.st l[k].act.author]:=by rw[List.take_succ_eq_append_getElem hlt,List.map_append];rfl
  generalize l[k]=it at *;refine Aa (an @s1 (an @s11 (AA @s12 @s13 @s3 @hlt' @hg @hsz @hT1 @hT2 @hk0 @hrl @w1))) ?_;exact As (l.length-(k+1)) (by omega) ⟨Ab,Ab,Ab,Ab,k+1,_,Ab,Ab,by rw[htk];rfl,by omega,rfl⟩
 ·obtain rfl:k=l.length:=by omega
  have hlt':¬(l.length:Int)<(l.length:Int):=by omega
  rw[List.take_length,show(l.map fun it=>AV.st it.act.author)=(l.map fun it=>it.act.author).map AV.st by rw[List.map_map];rfl]
  refine Aa (A6 @s1 @s11 @s12 @s13 @s3 @hlt') ?_;refine Kn 1 ksort ?_ (QA _ _ _) (QA _ _ _)
  refine Aa @s3 ?_;refine Kn 1 kcomp ?_ (QA _ _ _) rfl
  refine run ?_;refine CG (fun m e S=>e 1=.ptr 0 0∧e 30=.sl .ro (U.map AV.st)∧e 31=.it .i64 (U.length:Int) ∧ ∃(k:Nat) (T:Ae),e 32=.it .i64 (k:Int)∧e 6=.sl (.own 1) ((U.take k).map fun id=>AN (F id))∧S=.cells [AB ps,.sl .ro (l.map Ao)]::.buf k 37 6::T∧k≤U.length∧m=U.length-k) U.length
   (Aw (Aw (Aw (Aw (Aw (Aw (fun _=>.junk) 1 (.ptr 0 0)) 6 (.sl .full [])) 30 (.sl .ro (U.map AV.st))) 31 (.it .i64 (U.length:Int))) 32 (.it .i64 0)) 6 (.sl (.own 1) [])) [.cells [AB ps,.sl .ro (l.map Ao)],.buf 0 37 6] ?_
   ⟨Ab,Ab,Ab,0,[],Ab,Ab,rfl,by omega,rfl⟩ ?_
  ·refine Aq.trans2 (Aq.pre 0 (S':=[.cells [AB ps,.sl .ro (l.map Ao)]]) (T:=_::_) (((((IJ.nil 1 _).cons 1 (.ptr 0 0) Ab).cons 6 (.sl .full []) Ab).cons 30 (.sl .ro (U.map AV.st)) Ab).cons 31 (.it .i64 (U.length:Int)) Ab |>.cons 32 (.it .i64 0) Ab) rfl) (Aq.reserve 0 6 rfl 37 6)
  clear s1 s2 s11 s12 s13 s3 hT1 hT2;rintro m e S ⟨s1,s30,s31,k,T,s32,s6,rfl,hkU,rfl⟩
  have hT1:∀y:SObj,(T++[y])[T.length]? = some y:=fun y=>by simp
  have hT2:∀y z:SObj,(T++[y]).set T.length z=T++[z]:=fun y z=>by simp
  have hT3:∀y z:SObj,(T++[y]++[z])[T.length]? = some y:=fun y z=>by simp
  have hT4:∀y z:SObj,(T++[y]++[z])[T.length+1]? = some z:=fun y z=>by simp
  have hT5:∀y z u:SObj,(T++[y]++[z]).set (T.length+1) u=T++[y]++[u]:=fun y z u=>by simp
  by_cases hlt:k<U.length
  ·have hg:U[k]? = some U[k]:=List.getElem?_eq_getElem hlt
   have hlt':(k:Int)<(U.length:Int):=by omega
   have h0k:(0:Int)≤(k:Int):=by omega
   have w1:=Cg (k:=k) (by omega)
   obtain⟨kOf,hne2,hal⟩:=kF U[k] (List.getElem_mem hlt);have htk:(U.take (k+1)).map (fun id=>AN (F id))=(U.take k).map (fun id=>AN (F id))++[AN (F U[k])]:=by rw[List.take_succ_eq_append_getElem hlt,List.map_append];rfl
   have hsa:=Zjr F (U.take k);have hkl2:((U.take k).map fun id=>AN (F id)).length=k:=by rw[List.length_map,List.length_take];omega
   have hpos:((F U[k]).acts.length:Int)>0:=by have :=List.length_pos_iff.2 hne2;omega
   generalize U[k]=id at *;generalize F id=c at *;refine Aa (F3 @s1 @s30 @s31 @s32 @s6 @hlt' @hg @h0k @hT1 @hT2) ?_;refine cp kOf ?_;refine Aa (an @s1 (an @s30 (an @s31 (AA @s32 @s6 @hT1 @hT2 @hT3 @hT4 @hT5 @hpos @hsa @hkl2 @w1)))) ?_;exact As (U.length-(k+1)) (by omega) ⟨Ab,Ab,Ab,k+1,_,Ab,by rw[htk];exact Ab,rfl,by omega,rfl⟩
  ·obtain rfl:k=U.length:=by omega
   have hlt':¬(U.length:Int)<(U.length:Int):=by omega
   rw[List.take_length]at s6;refine Aa (A6 @s1 @s30 @s31 @s32 @s6 @hlt') ?_;exact AQ
end Pe
end
section
namespace Pe
open Tryz
open Go Go.RowKit Co Sg Ac It Sl Tp Sr
set_option maxRecDepth 100000
set_option maxHeartbeats 4000000
def Cb(ps:List Int)(l:List It.Item):List It.Item:=l.foldl (fun k it=>(Ce ps k it).1) []
theorem ZaB{ps:List Int}{l:List It.Item}{it:It.Item}(h1:(It.right it&&It.signed ps it)=true)(h2:It.digest it∉l.map It.digest):(Ce ps l it).1.Perm (it::l):=by
 unfold Ce;rw[if_pos h1]
 have:FQ l (It.digest it)=false:=by
  unfold FQ;rw[List.any_eq_false];intro x hx e;exact h2 (List.mem_map.2 ⟨x,hx,by simpa using e⟩)
 rw[if_neg (by rw[this];decide)]
 exact List.perm_middle.trans (by rw[List.take_append_drop])
theorem OD(ps:List Int):∀(l acc:List It.Item),(∀x∈l,(It.right x&&It.signed ps x)=true)→((acc++l).map It.digest).Nodup→(l.foldl (fun k it=>(Ce ps k it).1) acc).Perm (acc++l)
 |[],acc,_,_=>by simp
 | x::l,acc,h,hd=>by
  have hx:It.digest x∉acc.map It.digest:=by
   rw[List.map_append,List.nodup_append]at hd;exact fun hm=>hd.2.2 _ hm (It.digest x) (by simp) rfl
  have hp:=ZaB (l:=acc) (h x (by simp)) hx
  have h1:((Ce ps acc x).1++l).Perm (acc++x::l):=(hp.append_right l).trans List.perm_middle.symm;rw[List.foldl_cons];exact(OD ps l _ (fun y hy=>h y (List.mem_cons_of_mem _ hy)) ((h1.map It.digest).nodup_iff.2 hd)).trans h1
theorem Sq{k out:List Ac.Act}(hG:Inv k out){a:Ac.Act}(ha:a∈out):Ac.right a=true:=by
 have hm:a∈Bz out a.author:=List.mem_filter.2 ⟨ha,beq_self_eq_true _⟩;obtain⟨j,hj⟩:=List.mem_iff_getElem?.1 hm;exact(EY (hG.ok a.author) hj).2.2.1
section
variable {ps:List Int} {k out:List Ac.Act} {l:List It.Item}
theorem Zkt(hG:Inv k out)(hl:l.Perm (out.map An))(id:By):(actsP l id).Perm (Bz out id):=by
 unfold actsP;refine((Lw _).map _).trans ?_
 unfold Eg;rw[List.map_map];have h1:(l.filter (Fs id)).Perm ((out.map An).filter (Fs id)):=hl.filter _;refine(h1.map _).trans ?_
 rw[List.filter_map,List.map_map];rw[show(((fun x:Fa=>x.val)∘fun it:It.Item=>(⟨it.act.seq,It.digest it,it.act⟩:Fa))∘An)=fun a=>a from rfl,List.map_id']
 refine List.Perm.of_eq (List.filter_congr fun a ha=>?_)
 show((An a).kind==0&&(An a).act.author==id&&It.right (An a))=(a.author==id)
 rw[(act_signed [] (Sq hG ha)).1,Bool.and_true];rfl
theorem V6{id:By}{A L:List Ac.Act}(h:CF id L)(hp:A.Perm L):P5 A:=by
 refine((hp.map fun a=>(a.seq,a.prev)).nodup_iff).2 ?_
 refine List.pairwise_map.2 (List.pairwise_iff_getElem.2 fun i j hi hj hij e=>?_)
 have h1:=(EY h (List.getElem?_eq_getElem hi)).1
 have h2:=(EY h (List.getElem?_eq_getElem hj)).1
 have :=(Prod.mk.inj e).1;omega
theorem Tv(hG:Inv k out)(hl:l.Perm (out.map An))(hol:out.length≤19)(hps:ps.length=4){id:By}(hid:Bz out id≠[]):
  AC prog 8 [BC ps l,.st id] [] (AN (AF id (Bz out id))) []:=by
 have hll:l.length=out.length:=by rw[hl.length_eq,List.length_map]
 have hok:CF id (Bz out id):=hG.ok id
 have hp:=Zkt (l:=l) hG hl id;have hmem:∀x∈l,∃a∈out,An a=x:=fun x hx=>List.mem_map.1 (hl.mem_iff.1 hx)
 have hz:∀x∈l,Iz x:=fun x hx=>by
  obtain⟨a,ha,rfl⟩:=hmem x hx;exact EA (act_signed [] (Sq hG ha)).1
 have hdn:(l.map It.digest).Nodup:=by
  refine((hl.map It.digest).nodup_iff).2 ?_
  rw[List.map_map];exact hG.nodup
 have hbl:(Bz out id).length≤out.length:=List.length_filter_le _ _
 have kA:=ZaH ps l id (by omega) hz (by
  unfold Eg;rw[List.length_map];have :=List.length_filter_le (Fs id) l;omega) hdn
 have kw:=fun g=>Zcd ps l id g hps (by omega) (fun x hx=>by obtain⟨a,_,rfl⟩:=hmem x hx;rfl)
 obtain⟨a0,L,hL⟩:∃a0 L,Bz out id=a0::L:=by
  cases h:Bz out id with
  |nil=>exact absurd h hid
  |cons a L=>exact⟨a,L,rfl⟩
 have h0:=hok 0 a0 (by rw[hL];rfl)
 unfold GK at h0;rw[List.take_zero,if_pos rfl]at h0;have hruns:=QW hok hp (Bz out id).length 1 (by decide) (by rw[hL];simp) (by omega)
 rw[show(Bz out id).take 1=[a0] by rw[hL];rfl]at hruns
 refine Zy ps (l.map Ao) id (actsP l id) a0 _ (fun _=>(CX,false)) (Bz out id).length kA kw (fun g h=>nomatch h) (fun g m h=>nomatch h) (fun a ha=>?_) (V6 hok hp) ?_ (by rw[hp.length_eq];omega) (by omega) (hp.mem_iff.2 (by rw[hL];simp)) h0 hruns
 ·have :=hp.mem_iff.1 ha
  exact Sq hG (List.mem_filter.1 this).1
 ·refine((hp.map dg).nodup_iff).2 ?_
  exact hG.nodup.sublist ((List.filter_sublist).map dg)
theorem Zkj(hG:Inv k out)(hl:l.Perm (out.map An))(hol:out.length≤19)(hps:ps.length=4)(h0:out≠[]):
  AC prog 26 [BC ps l] [] (.sl .ro ((Gm l).map fun id=>AN (AF id (Bz out id)))) [] ∧ ∀id,id∈Gm l↔Bz out id≠[]:=by
 have hll:l.length=out.length:=by rw[hl.length_eq,List.length_map]
 have hiff:∀id,id∈Gm l↔Bz out id≠[]:=fun id=>by
  rw[Zgr,List.mem_map];constructor
  ·rintro⟨x,hx,e⟩ hn
   obtain⟨a,ha,rfl⟩:=List.mem_map.1 (hl.mem_iff.1 hx)
   have:a∈Bz out id:=List.mem_filter.2 ⟨ha,by rw[←e];exact beq_self_eq_true _⟩
   rw[hn]at this;simp at this
  ·intro hn
   obtain⟨a,ha⟩:=List.exists_mem_of_ne_nil _ hn;obtain⟨h1,h2⟩:=List.mem_filter.1 ha;exact⟨An a,hl.mem_iff.2 (List.mem_map.2 ⟨a,h1,rfl⟩),beq_iff_eq.1 h2⟩
 refine⟨Zkk ps l (fun id=>AF id (Bz out id)) (fun e=>h0 (by rw[e]at hll;exact List.eq_nil_of_length_eq_zero hll.symm)) (by omega) (fun x hx=>?_) (fun id hid=>⟨Tv hG hl hol hps ((hiff id).1 hid),?_,?_⟩),hiff⟩
 ·obtain⟨a,_,rfl⟩:=List.mem_map.1 (hl.mem_iff.1 hx)
  rfl
 ·rw[ED]
  exact(hiff id).1 hid
 ·rw[ED]
  have:(Bz out id).length≤out.length:=List.length_filter_le _ _
  omega
end
end Pe
end
section
namespace Pe
open Tryz
open Go Go.RowKit Co Sg Ac It Sl Tp Sr Ho
set_option maxRecDepth 100000
set_option maxHeartbeats 4000000
def AY(m:Nat):List Ac.Act:=[BN,Bl,EG,B5]++[ET,Fz].take m
theorem NO(m:Nat):∀a∈AY m,Ac.right a=true:=fun a ha=>by
 rcases List.mem_append.1 ha with h|h
 ·simp only[List.mem_cons,List.not_mem_nil,or_false]at h
  rcases h with rfl|rfl|rfl|rfl
  ·exact VT
  ·exact Rf
  ·exact VS
  ·exact VL
 ·have :=List.mem_of_mem_take h
  simp only[List.mem_cons,List.not_mem_nil,or_false]at this;rcases this with rfl|rfl
  ·exact VN
  ·exact VM
structure HSet(Q:List It.Ballot)(l:List It.Item)(m:Nat)(C:List It.Claim)(B:List It.Ballot):Prop where
 perm:l.Perm ((AY m).map An++(C.map Ax++B.map Cj))
 nd:(l.map It.digest).Nodup
 right:∀x∈l,It.right x=true
 iz:∀x∈l,Iz x
 hm:m≤2
 nc:C.length≤3
 pool:∀b∈B,b∈Q
 nq:Q.length≤12
 cl:∀c∈C,∃i b h,i<3∧b≤m∧h<4∧c=Ca i b h
 srv:∀b∈B,0≤b.server∧b.server≤3
 vote:∀x∈B,∀y∈B,x.server=y.server→x.server<3→x.claim=y.claim
section
variable {Q:List It.Ballot} {l:List It.Item} {m:Nat} {C:List It.Claim} {B:List It.Ballot}
theorem WC{α:Type _}[DecidableEq α]:∀{l m:List α},l.Nodup→(∀x∈l,x∈m)→l.length≤m.length
 |[],_,_,_=>Nat.zero_le _
 |x::l,m,hn,hs=>by
  have hx:=hs x (by simp)
  have h1:=(List.nodup_cons.1 hn);have :=WC (l:=l) (m:=m.erase x) h1.2 fun y hy=>(List.mem_erase_of_ne (fun e=>h1.1 (by rw[←e];exact hy))).2 (hs y (List.mem_cons_of_mem _ hy))
  rw[List.length_erase_of_mem hx]at this;have :=List.length_pos_of_mem hx;rw[List.length_cons];omega
theorem HSet.nb(h:HSet Q l m C B):B.length≤12:=by
 have h1:=(h.perm.map It.digest).nodup_iff.1 h.nd;rw[List.map_append,List.map_append,List.nodup_append,List.nodup_append]at h1;have h2:B.Nodup:=List.Pairwise.imp (fun {a b} hab e=>hab (by rw[e])) (List.pairwise_map.1 (List.pairwise_map.1 h1.2.1.2.1))
 exact Nat.le_trans (WC h2 h.pool) h.nq
theorem HSet.ballot(h:HSet Q l m C B):∀it∈l,it.kind=2→it.ballot∈B:=fun it hit hk=>by
 rcases List.mem_append.1 (h.perm.mem_iff.1 hit)with h1|h1
 ·obtain⟨a,_,rfl⟩:=List.mem_map.1 h1
  exact absurd hk (by decide:¬(0:Int)=2)
 ·rcases List.mem_append.1 h1 with h1|h1
  ·obtain⟨a,_,rfl⟩:=List.mem_map.1 h1
   exact absurd hk (by decide:¬(1:Int)=2)
  ·obtain⟨b,hb,rfl⟩:=List.mem_map.1 h1
   exact hb
theorem HSet.claim(h:HSet Q l m C B){c:It.Claim}(hc:c∈C):Ax c∈l:=h.perm.mem_iff.2 (List.mem_append_right _ (List.mem_append_left _ (List.mem_map_of_mem hc)))
theorem HSet.actsP(h:HSet Q l m C B):(actsP l Aj).Perm (LH.take (2+m)):=by
 unfold Pe.actsP;refine((Lw _).map _).trans ?_
 unfold Eg;rw[List.map_map];refine((h.perm.filter (Fs Aj)).map _).trans ?_
 rw[List.filter_append,List.filter_append,List.map_append,List.map_append];have e1:(C.map Ax).filter (Fs Aj)=[]:=List.filter_eq_nil_iff.2 fun x hx=>by
  obtain⟨c,_,rfl⟩:=List.mem_map.1 hx;simp[Fs,Ax]
 have e2:(B.map Cj).filter (Fs Aj)=[]:=List.filter_eq_nil_iff.2 fun x hx=>by
  obtain⟨c,_,rfl⟩:=List.mem_map.1 hx;simp[Fs,Cj]
 rw[e1,e2,List.map_nil,List.append_nil,List.append_nil,List.filter_map,List.map_map];rw[show(((fun x:Fa=>x.val)∘fun it:It.Item=>(⟨it.act.seq,It.digest it,it.act⟩:Fa))∘An)=fun a=>a from rfl,List.map_id']
 have e3:(AY m).filter (Fs Aj∘An)=(AY m).filter fun a=>a.author==Aj:=List.filter_congr fun a ha=>by
  show((An a).kind==0&&(An a).act.author==Aj&&It.right (An a))=(a.author==Aj)
  rw[(act_signed [] (NO m a ha)).1,Bool.and_true];rfl
 rw[e3];refine List.Perm.of_eq ?_
 match m,h.hm with
 |0,_=>rfl
 |1,_=>rfl
 |2,_=>rfl
theorem HSet.idc(h:HSet Q l m C B){c:It.Claim}(hc:c∈C):c.actor=Aj∧c.gen=0:=by
 obtain⟨i,b,hh,_,_,_,rfl⟩:=h.cl c hc;exact⟨rfl,rfl⟩
theorem HSet.claimsP(h:HSet Q l m C B):(claimsP l Aj).Perm C:=by
 unfold Pe.claimsP;refine((Lw _).map _).trans ?_
 unfold EC;rw[List.map_map];refine((h.perm.filter (Ih Aj)).map _).trans ?_
 rw[List.filter_append,List.filter_append,List.map_append,List.map_append];have e1:((AY m).map An).filter (Ih Aj)=[]:=List.filter_eq_nil_iff.2 fun x hx=>by
  obtain⟨c,_,rfl⟩:=List.mem_map.1 hx;simp[Ih,An,B2]
 have e2:(B.map Cj).filter (Ih Aj)=[]:=List.filter_eq_nil_iff.2 fun x hx=>by
  obtain⟨c,_,rfl⟩:=List.mem_map.1 hx;simp[Ih,Cj]
 rw[e1,e2,List.map_nil,List.append_nil,List.nil_append,List.filter_map,List.map_map];rw[show(((fun x:Fc=>x.val)∘fun it:It.Item=>(⟨0,It.digest it,it.claim⟩:Fc))∘Ax)=fun a=>a from rfl,List.map_id']
 refine List.Perm.of_eq (List.filter_eq_self.2 fun c hc=>?_)
 show((1:Int)==1&&c.actor==Aj&&It.right (Ax c))=true
 rw[(h.idc hc).1,h.right _ (h.claim hc)];decide
def GF(l:List It.Item)(C:List It.Claim):Option It.Claim:=C.find? fun c=>decide (3≤(C1 l (It.digest (Ax c)) Aj 0).length)
theorem HSet.one(h:HSet Q l m C B){c d:It.Claim}(hc:c∈C)(hd:d∈C)(h1:3≤(C1 l (It.digest (Ax c)) Aj 0).length)(h2:3≤(C1 l (It.digest (Ax d)) Aj 0).length):c=d:=by
 have e:=ZfV (fun it hit hk=>h.srv _ (h.ballot it hit hk)) (fun x hx y hy kx ky=>h.vote _ (h.ballot x hx kx) _ (h.ballot y hy ky)) h1 h2
 have :=LS h.nd (h.claim hc) (h.claim hd) e;exact congrArg It.Item.claim this
theorem HSet.won0(h:HSet Q l m C B):D9 l Aj 0=match GF l C with |some c=>(c,true)|none=>(CX,false):=by
 unfold D9 KJ;have e:(Pe.claimsP l Aj).find? (GX l Aj 0)=GF l C:=by
  rw[ZhY h.claimsP (fun x hx y hy px py=>?_)]
  ·unfold GF
   have key:∀L:List It.Claim,(∀c∈L,c.gen=0)→L.find? (GX l Aj 0)=L.find? fun c=>decide (3≤(C1 l (It.digest (Ax c)) Aj 0).length):=fun L=>by
    induction L with
    |nil=>exact fun _=>rfl
    |cons x L ih=>
     intro hL;rw[List.find?_cons,List.find?_cons,ih fun c hc=>hL c (List.mem_cons_of_mem _ hc)]
     unfold GX;rw[hL x (by simp)]
     rfl
   exact key C fun c hc=>(h.idc hc).2
  ·unfold GX at px py
   rw[Bool.and_eq_true]at px py;exact h.one (h.claimsP.mem_iff.1 hx) (h.claimsP.mem_iff.1 hy) (of_decide_eq_true px.2) (of_decide_eq_true py.2)
 rw[e];all_goals cases GF l C<;>rfl
theorem HSet.wong(h:HSet Q l m C B){g:Int}(hg:g≠0):D9 l Aj g=(CX,false):=by
 unfold D9 KJ;have e:(Pe.claimsP l Aj).find? (GX l Aj g)=none:=List.find?_eq_none.2 fun c hc px=>by
  unfold GX at px;rw[Bool.and_eq_true]at px;have :=of_decide_eq_true px.1;rw[(h.idc (h.claimsP.mem_iff.1 hc)).2]at this;exact hg this.symm
 rw[e]
theorem Zr{k:Key}(hk:k.right=true)(c:It.Claim):It.claimed k.pub (It.signClaim k c)=true:=Zco hk (C6 (Ax c))
theorem Re:rL.right=true:=by decide +kernel
def JP(l:List It.Item)(m:Nat)(C:List It.Claim):Chn:=match GF l C with
 |some c=>EJ (AF Aj (LH.take c.base.toNat)) c
 |none=>AF Aj (LH.take (2+m))
theorem HSet.runs(h:HSet Q l m C B):G6 (fun g=>if(D9 l Aj g).2=true then some (D9 l Aj g).1 else none) (Pe.actsP l Aj) 30 (AF Aj [BN]) (JP l m C):=by
 have hok:CF Aj (LH.take (2+m)):=RL RO _;have hlen:(LH.take (2+m)).length=2+m:=by
  rw[List.length_take];have :=h.hm;show min (2+m) 4=_
  omega
 have h1:AF Aj [BN]=AF Aj ((LH.take (2+m)).take 1):=by rw[List.take_take,Nat.min_eq_left (by omega)];rfl
 unfold JP;cases hw:GF l C with
 | none=>
  have e:(fun g=>if(D9 l Aj g).2=true then some (D9 l Aj g).1 else none)=fun _=>none:=by
   funext g
   by_cases hg:g=0
   ·subst hg;rw[h.won0,hw];rfl
   ·rw[h.wong hg];rfl
  rw[e,h1];have :=h.hm;exact QW hok h.actsP 30 1 (by decide) (by omega) (by omega)
 | some c=>
  have hc:c∈C:=List.mem_of_find?_eq_some hw
  have e:(fun g=>if(D9 l Aj g).2=true then some (D9 l Aj g).1 else none)=fun g=>if g=0 then some c else none:=by
   funext g
   by_cases hg:g=0
   ·subst hg;rw[h.won0,hw];rfl
   ·rw[h.wong hg,if_neg hg];rfl
  obtain⟨i,b,hh,hi,hb,hh4,rfl⟩:=h.cl c hc;have hm:=h.hm;have hb3:b<3:=by omega
  have hbt:(LH.take (2+m)).take (2+b)=LH.take (2+b):=by rw[List.take_take,Nat.min_eq_left (by omega)]
  have hbase:(Ca i b hh).base.toNat=2+b:=rfl;simp only[hbase];rw[e,h1,←hbt];refine Vl hok h.actsP (a:=B5) (b:=2+b) (by omega) (by omega) rfl ?_ ?_ ?_ ?_ 30 1 (by decide) (by omega) (by omega)
  ·rw[hbt,Ro hb3];rfl
  ·rw[hbt];exact Vb hb3
  ·exact Zr Re _
  ·rw[PO hi hb3 hh4]
   show _≠Dp b
   have hnd:=Td;intro e2;have hmem:dC.getD (12*i+(4*b+hh)) []∈dC:=by
    rw[List.getD_eq_getElem?_getD,List.getElem?_eq_getElem (by rw[PL];omega)]
    exact List.getElem_mem _
   rw[e2]at hmem;have :=(List.nodup_append.1 hnd).2.2 _ hmem (Dp b) (by
    match b,hb3 with
    |0,_=>decide
    |1,_=>decide
    |2,_=>decide)
   exact this rfl
end
end Pe
end
end Go.Proofs.YtchpmmjmimaigaaGreatDoor
