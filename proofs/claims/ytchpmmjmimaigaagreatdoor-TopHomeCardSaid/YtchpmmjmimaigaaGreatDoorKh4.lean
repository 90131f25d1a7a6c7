import Derived.Test.YtchpmmjmimaigaaGreatDoorKh3
import Derived.Lib.AppendStr
import Derived.RangeFuncNested
import Derived.RangeFuncRecord
import Derived.OrdersIn
import Derived.TacticsIn
set_option linter.unusedSectionVars false
set_option linter.unusedVariables false
set_option linter.unusedSimpArgs false
namespace Go.Proofs.YtchpmmjmimaigaaGreatDoor
section
namespace Pe
open Go Go.RowKit
variable [Tab]
section
variable {w w':World} {g g':Gh} {S:Ae} {l:Nat} {o:SObj}
theorem G7.keep(h:G7 w g l o)(hl:Le w g w' g')(hpl:g'.pl l=g.pl l)(hbuf:g'.buf l=g.buf l)(hwm:g'.wm l=g.wm l)(hcap:g'.cap l=g.cap l)(hown:g'.own l=g.own l)
  (hG:∀b,g.own l b→g'.G b=g.G b)(hheap:∀b,g.own l b→w'.heap[b]? = w.heap[b]?):G7 w' g' l o:=by
 cases o with
 |cells cs=>
  obtain⟨h1,h2,h3,arr,T,fr,h4,h5,h6,h7,h8⟩:=h;refine⟨by rw[hbuf];exact h1,by rw[hown,hpl];exact h2,by rw[hpl,hG _ h2];exact h3,arr,T,fr,by rw[hpl,hheap _ h2];exact h4,h5,h6,h7,fun j u v hu hv=>(h8 j u v hu hv).le hl⟩
 |buf n e sz=>
  obtain⟨h1,h2,h3⟩:=h;refine⟨by rw[hbuf];exact h1,by rw[hwm];exact h2,?_⟩
  rcases h3 with h3|⟨h3,h4,h5,h6,cur,fr,h7,h8,h9⟩
  ·exact .inl (by rw[hcap];exact h3)
  ·exact .inr ⟨by rw[hown,hpl];exact h3,h4,by rw[hcap];exact h5,by rw[hpl,hG _ h3];exact h6,cur,fr,by rw[hpl,hheap _ h3];exact h7,h8,by rw[hcap];exact h9⟩
 | ext X=>
  obtain⟨h1,h2,h3,h4⟩:=h;refine⟨by rw[hbuf];exact h1,by rw[hown,hpl];exact h2,fun b hb=>?_,fun w'' hw=>?_⟩
  ·rw[hown]at hb;rw[hG b hb];exact h3 b hb
  ·rw[hown,hpl]
   exact h4 w'' fun b hb=>by rw[hw b (by rw[hown];exact hb),hheap b hb]
 |map es=>
  obtain⟨h1,h2,h3,me,clock,h4,h5,h6,h7,h8⟩:=h;exact⟨by rw[hbuf];exact h1,by rw[hown,hpl];exact h2,by rw[hpl,hG _ h2];exact h3,me,clock,by rw[hpl,hheap _ h2];exact h4,h5,h6,h7,fun j u x hu hx=>⟨(h8 j u x hu hx).1.le hl,(h8 j u x hu hx).2.le hl⟩⟩
 |siter s pos=>
  obtain⟨h1,h2,h3,h4⟩:=h;exact⟨by rw[hbuf];exact h1,by rw[hown,hpl];exact h2,by rw[hpl,hG _ h2];exact h3,by rw[hpl,hheap _ h2];exact h4⟩
 |dead=>trivial
 |loop b D fn es ps asn bdy st=>
  obtain⟨h1,h2,h3,h4,tmps,h5,h6,h7⟩:=h;exact⟨by rw[hbuf];exact h1,by rw[hown,hpl];exact h2,by rw[hpl,hG _ h2];exact h3,by rw[hpl];exact h4,tmps,by rw[hpl,hheap _ h2];exact h5,h6,fun j u x hu hx=>(h7 j u x hu hx).le hl⟩
 |row cs e sz=>
  obtain⟨h1,h2,h3⟩:=h;refine⟨by rw[hbuf];exact h1,by rw[hwm];exact h2,?_⟩
  rcases h3 with⟨h3,h4⟩|⟨h3,h4,arr,fr,h5,h6,h7,h8,h9,h10⟩
  ·exact .inl ⟨by rw[hcap];exact h3,h4⟩
  ·exact .inr ⟨by rw[hown,hpl];exact h3,by rw[hpl,hG _ h3];exact h4,arr,fr,by rw[hpl,hheap _ h3];exact h5,h6,by rw[hcap];exact h7,h8,h9,fun j u v hu hv=>(h10 j u v hu hv).le hl⟩
theorem WF.touch(h:WF w g S)(hl:l<S.length)(hle:Le w g w' g')(hnid:g'.nid=g.nid)
  (hsame:∀k,k≠l→k<g.nid→g'.pl k=g.pl k∧g'.buf k=g.buf k∧g'.wm k=g.wm k∧g'.cap k=g.cap k∧g'.own k=g.own k)
  (hownl:∀b,g'.own l b→g.own l b∨(w.heap.size≤b∧b<w'.heap.size))(hsize:w.heap.size≤w'.heap.size)
  (hG:∀b,b<w.heap.size → ¬g.own l b→g'.G b=g.G b)(hheap:∀b,b<w.heap.size → ¬g.own l b→w'.heap[b]? = w.heap[b]?)
  (hobj:G7 w' g' l o):WF w' g' (S.set l o):=by
 have hn:g.nid=S.length:=h.nid;refine⟨by rw[hnid,hn,List.length_set],fun k o' hk=>?_,fun k k' b hk hk' hb hb'=>?_,fun k b hk hb=>?_,h.tab.le hle⟩
 ·by_cases hkl:k=l
  ·subst hkl
   rw[List.getElem?_set_self hl]at hk
   cases hk
   exact hobj
  ·rw[List.getElem?_set_ne (fun e=>hkl e.symm)]at hk
   have hkn:k<g.nid:=by rw[hn];exact(List.getElem?_eq_some_iff.1 hk).1
   obtain⟨e1,e2,e3,e4,e5⟩:=hsame k hkl hkn;have hno:∀b,g.own k b → ¬g.own l b:=fun b hb hb'=>hkl (h.disj k l b hkn (by omega) hb hb')
   exact(h.obj k o' hk).keep hle e1 e2 e3 e4 e5 (fun b hb=>hG b (h.lt k b hkn hb) (hno b hb)) (fun b hb=>hheap b (h.lt k b hkn hb) (hno b hb))
 ·rw[hnid]at hk hk'
  have key:∀k,k<g.nid→k≠l→g'.own k b→g.own l b∨(w.heap.size≤b∧b<w'.heap.size)→False:=by
   intro k hk hkl hb hb';rw[(hsame k hkl hk).2.2.2.2]at hb;rcases hb' with hb'|hb'
   ·exact hkl (h.disj k l b hk (by omega) hb hb')
   ·have :=h.lt k b hk hb;omega
  by_cases h1:k=l<;>by_cases h2:k'=l
  ·rw[h1,h2]
  ·subst h1;exact(key k' hk' h2 hb' (hownl b hb)).elim
  ·subst h2;exact(key k hk h1 hb (hownl b hb')).elim
  ·rw[(hsame k h1 hk).2.2.2.2]at hb
   rw[(hsame k' h2 hk').2.2.2.2]at hb';exact h.disj k k' b hk hk' hb hb'
 ·rw[hnid]at hk
  by_cases h1:k=l
  ·subst h1
   rcases hownl b hb with hb|hb
   ·have :=h.lt k b hk hb;omega
   ·exact hb.2
  ·rw[(hsame k h1 hk).2.2.2.2]at hb
   have :=h.lt k b hk hb;omega
def Gh.stab(g:Gh)(b n:Nat):Gh:={ g with G:=fun x=>if x=b then n else g.G x }
theorem Le.stab_new(w:World)(g:Gh)(o:Obj)(n:Nat):Le w g (w.alloc o) (g.stab w.heap.size n):=by
 refine⟨fun b o' v _ hv=>?_,fun b o' v hb hv=>?_,Nat.le_refl _,fun _ _=>⟨rfl,.inl ⟨rfl,rfl,rfl⟩⟩,fun b me c hg hm=>by
  have hlt:=(Array.getElem?_eq_some_iff.1 hm).1
  exact⟨by simp only[Gh.stab];rw[if_neg (show b≠w.heap.size from Nat.ne_of_lt hlt)];exact hg,(heap_alloc_old w o hlt).trans hm⟩⟩
 ·have hlt:=World.block_lt_of_cell? w _ hv
  rw[World.cell?_alloc_lt w o _ hlt]
  exact hv
 ·have hlt:=World.block_lt_of_cell? w _ hv
  simp only[Gh.stab];rw[if_neg (show b≠w.heap.size from Nat.ne_of_lt hlt)]
  exact hb
theorem WF.alloc_stab(h:WF w g S)(o:Obj)(n:Nat):WF (w.alloc o) (g.stab w.heap.size n) S∧Evo w g (w.alloc o) (g.stab w.heap.size n):=by
 have hle:=Le.stab_new w g o n;refine⟨⟨h.nid,fun l o' hl=>?_,h.disj,fun l b hl hb=>?_,h.tab.le hle⟩,⟨hle,rfl,rfl,rfl,by simp,fun b hb _=>heap_alloc_old w o hb,fun l b hl hb _=>⟨hl,hb⟩,fun b hb _=>if_neg (Nat.ne_of_lt hb)⟩⟩
 ·have hlt:l<g.nid:=by rw[h.nid];exact(List.getElem?_eq_some_iff.1 hl).1
  refine(h.obj l o' hl).keep hle rfl rfl rfl rfl rfl (fun b hb=>?_) (fun b hb=>heap_alloc_old w o (h.lt l b hlt hb))
  simp only[Gh.stab];rw[if_neg (Nat.ne_of_lt (h.lt l b hlt hb))]
 ·have :=h.lt l b hl hb
  show b<(w.heap.push o).size
  simp;omega
def Gh.push(g:Gh)(b:Nat)(isBuf:Bool)(wm cap n:Nat):Gh:=
 { G:=fun x=>if x=b then n else g.G x,pl:=fun k=>if k=g.nid then b else g.pl k,own:=fun k x=>if k=g.nid then x=b else g.own k x,nid:=g.nid+1,buf:=fun k=>if k=g.nid then isBuf else g.buf k,wm:=fun k=>if k=g.nid then wm else g.wm k,cap:=fun k=>if k=g.nid then cap else g.cap k }
theorem Le.push_new(w:World)(g:Gh)(o:Obj)(isBuf:Bool)(wm cap n:Nat):Le w g (w.alloc o) (g.push w.heap.size isBuf wm cap n):=by
 refine⟨fun b o' v _ hv=>?_,fun b o' v hb hv=>?_,by simp[Gh.push],fun k hk=>?_,fun b me c hg hm=>by
  have hlt:=(Array.getElem?_eq_some_iff.1 hm).1
  exact⟨by simp only[Gh.push];rw[if_neg (show b≠w.heap.size from Nat.ne_of_lt hlt)];exact hg,(heap_alloc_old w o hlt).trans hm⟩⟩
 ·have hlt:=World.block_lt_of_cell? w _ hv
  rw[World.cell?_alloc_lt w o _ hlt]
  exact hv
 ·have hlt:=World.block_lt_of_cell? w _ hv
  simp only[Gh.push];rw[if_neg (show b≠w.heap.size from Nat.ne_of_lt hlt)]
  exact hb
 ·have:k≠g.nid:=Nat.ne_of_lt hk
  simp[Gh.push,this]
theorem WF.alloc_push(h:WF w g S)(ob:Obj)(isBuf:Bool)(wm cap n:Nat)(hobj:G7 (w.alloc ob) (g.push w.heap.size isBuf wm cap n) g.nid o):
  WF (w.alloc ob) (g.push w.heap.size isBuf wm cap n) (S++[o])∧Evo w g (w.alloc ob) (g.push w.heap.size isBuf wm cap n):=by
 have hle:=Le.push_new w g ob isBuf wm cap n;have hn:=h.nid;have hown:∀k,k<g.nid→(g.push w.heap.size isBuf wm cap n).own k=g.own k:=fun k hk=>by
  funext x;simp[Gh.push,Nat.ne_of_lt hk]
 have hownn:∀b,(g.push w.heap.size isBuf wm cap n).own g.nid b↔b=w.heap.size:=fun b=>by simp[Gh.push]
 have hlast:∀k,k<(g.push w.heap.size isBuf wm cap n).nid→k<g.nid∨k=g.nid:=fun k hk=>by simp only[Gh.push]at hk;omega
 refine⟨⟨by simp[Gh.push,hn],fun k o' hk=>?_,fun k k' b hk hk' hb hb'=>?_,fun k b hk hb=>?_,h.tab.le hle⟩,⟨hle,rfl,rfl,rfl,by simp,fun b hb _=>heap_alloc_old w ob hb,fun k b hk hb hlt=>?_,fun b hb _=>if_neg (Nat.ne_of_lt hb)⟩⟩
 ·by_cases hkl:k<S.length
  ·rw[List.getElem?_append_left hkl]at hk
   have hkn:k<g.nid:=by omega
   have hne:k≠g.nid:=by omega
   refine(h.obj k o' hk).keep hle (by simp[Gh.push,hne]) (by simp[Gh.push,hne]) (by simp[Gh.push,hne]) (by simp[Gh.push,hne]) (hown k hkn) (fun b hb=>?_) (fun b hb=>heap_alloc_old w ob (h.lt k b hkn hb))
   simp only[Gh.push];rw[if_neg (Nat.ne_of_lt (h.lt k b hkn hb))]
  ·rw[List.getElem?_append_right (by omega)]at hk
   have hk0:k-S.length=0:=by
    have :=(List.getElem?_eq_some_iff.1 hk).1
    simp at this;omega
   rw[hk0]at hk;cases hk
   have:k=g.nid:=by omega
   subst this;exact hobj
 ·rcases hlast k hk with h1|h1<;>rcases hlast k' hk' with h2|h2
  ·rw[hown k h1]at hb;rw[hown k' h2]at hb'
   exact h.disj k k' b h1 h2 hb hb'
  ·subst h2
   rw[hown k h1]at hb;rw[hownn]at hb';have :=h.lt k b h1 hb;omega
  ·subst h1
   rw[hown k' h2]at hb';rw[hownn]at hb;have :=h.lt k' b h2 hb';omega
  ·omega
 ·show b<(w.heap.push ob).size
  rw[Array.size_push];rcases hlast k hk with h1|h1
  ·rw[hown k h1]at hb
   have :=h.lt k b h1 hb;omega
  ·subst h1
   rw[hownn]at hb;omega
 ·rcases hlast k hk with h1|h1
  ·rw[hown k h1]at hb
   exact⟨h1,hb⟩
  ·subst h1
   rw[hownn]at hb;omega
theorem WF.new_cells(h:WF w g S){cs:List AV}{arr:Array Value}(hc:AI w g cs arr)(T:TypeId):
  ∃g',WF (w.alloc (.cells arr T)) g' (S++[.cells cs])∧Evo w g (w.alloc (.cells arr T)) g'∧Rel (w.alloc (.cells arr T)) g' (.ptr S.length 0) (.pointer (some ⟨w.heap.size,0,none⟩)):=by
 have hle:=Le.push_new w g (.cells arr T) false 0 0 0;have hr:=hc.le hle;obtain⟨h1,h2⟩:=h.alloc_push (.cells arr T) false 0 0 0 (o:=.cells cs) (by
  refine⟨by simp[Gh.push],by simp[Gh.push],by simp[Gh.push],arr,T,(0,0),?_,Nat.le_refl _,hr.1,hr.2.1,hr.2.2⟩
  simp only[Gh.push,if_true];exact heap_alloc_new w _)
 refine⟨_,h1,h2,?_⟩
 have :=Rel.ptr (w:=w.alloc (.cells arr T)) (g.push w.heap.size false 0 0 0) g.nid 0 (by simp[Gh.push]) (by simp[Gh.push])
 have hp:(g.push w.heap.size false 0 0 0).pl g.nid=w.heap.size:=by simp[Gh.push]
 rw[hp]at this;have hn:=h.nid;rw[hn]at this;exact this
end
end Pe
namespace Pe
open Go Go.RowKit
variable [Tab]
def wR(ro:Option Nat):Fence:={ Fence.wide with round:=ro }
def wq(P:Program)(o:Oper)(a:Act)(w:World)(K:Act→World→Prop)(Q:Exit→Act→World→Prop):Prop:=∀ro:Option Nat,o.wpIn (wR ro) 0 P a w K Q
theorem Zge{P:Program}{ρ:Operand→Value}{o:Oper}{w w':World}{x:Next}(h:(execOp ρ o).run P w=.ok x w')(hx:∀d,x≠.defer d):∀c,o.op≠.defer c:=by
 intro c ho;unfold execOp at h;rw[ho]at h;simp only[Sem.run_bind]at h;cases hr:(resolve ρ c o.type).run P w with
 |ok d w1=>
  rw[hr]at h;simp only[Result.andThen_ok,Sem.run_pure,Result.ok.injEq]at h;exact hx d h.1.symm
 |halt q w1=>rw[hr]at h;cases h
theorem N7{P:Program}{o:Oper}{a:Act}{w w':World}{x:Next}{K:Act→World→Prop}{Q:Exit→Act→World→Prop}(h:(execOp a.eval o).run P w=.ok x w')(hx:∀d,x≠.defer d)
  (hu:∀ro,o.uponIn (wR ro) 0 P a K Q (.ok x w')):wq P o a w K Q:=fun ro=>⟨fun _ _=>trivial,by
 rw[Oper.semAt_eq _ _ _ (Zge h hx),h];exact hu ro⟩
theorem Ui{P:Program}{o:Oper}{a:Act}{w w':World}{cv:Value}{K:Act→World→Prop}{Q:Exit→Act→World→Prop}(h:(execOp a.eval o).run P w=.ok (.value cv) w')(hK:K (a.put o.dst cv) w'):wq P o a w K Q:=
 N7 h (fun _ e=>by cases e) fun _=>hK
theorem Zb7{P:Program}{o:Oper}{a:Act}{w w':World}{K:Act→World→Prop}{Q:Exit→Act→World→Prop}(h:(execOp a.eval o).run P w=.ok .skip w')(hK:K (a.put o.dst undef) w'):wq P o a w K Q:=
 N7 h (fun _ e=>by cases e) fun _=>hK
theorem Tw{P:Program}{f:FuncId}{args:Array Value}{w:World}{R:Ending→World→Prop}(h:Calls P f args w R)(ro:Option Nat)(n:Nat):CallsIn (wR ro) n P f args w R:=(callsIn_wide (n:=n)).2 h
theorem Zb8{P:Program}{o:Oper}{a:Act}{w w':World}{f:FuncId}{args:Array Value}{K:Act→World→Prop}{Q:Exit→Act→World→Prop}(h:(execOp a.eval o).run P w=.ok (.enter f args) w')
  (hc:Calls P f args w' fun r w''=>∃cv,r=.returned cv∧K (a.put o.dst cv) w''):wq P o a w K Q:=
 N7 h (fun _ e=>by cases e) fun ro=>by
  rw[Oper.uponIn_enter];refine⟨fun e=>by simp[wR,Fence.wide]at e,CallsIn.mono (Tw hc ro _) ?_⟩
  rintro r w'' ⟨cv,rfl,hk⟩
  exact hk
def AR(P:Program)(o:Oper)(e:Af)(S:Ae)(v:AV)(S':Ae):Prop:=
 ∀(a:Act) (w:World) (g:Gh),WF w g S→(∀x,x∈o.op.operands.toList→Rel w g (ev e x) (a.eval x)) → ∀(K:Act→World→Prop) (Q:Exit→Act→World→Prop),
  (∀cv w' g',WF w' g' S'→Rel w' g' v cv→Evo w g w' g'→K (a.put o.dst cv) w')→wq P o a w K Q
section
variable {P:Program}
theorem Dj{o:Oper}{e:Af}{S S':Ae}{v:AV}(h:∀(ρ:Operand→Value) (w:World) (g:Gh),WF w g S→(∀x,x∈o.op.operands.toList→Rel w g (ev e x) (ρ x)) →
  ∃cv w' g',(execOp ρ o).run P w=.ok (.value cv) w'∧WF w' g' S'∧Rel w' g' v cv∧Evo w g w' g'):AR P o e S v S':=by
 intro a w g hw hr K Q hK;obtain⟨cv,w',g',h1,h2,h3,h4⟩:=h a.eval w g hw hr;exact Ui h1 (hK cv w' g' h2 h3 h4)
theorem S7{o:Oper}{e:Af}{S S':Ae}(h:∀(ρ:Operand→Value) (w:World) (g:Gh),WF w g S→(∀x,x∈o.op.operands.toList→Rel w g (ev e x) (ρ x)) →
  ∃w' g',(execOp ρ o).run P w=.ok .skip w'∧WF w' g' S'∧Evo w g w' g'):AR P o e S .junk S':=by
 intro a w g hw hr K Q hK;obtain⟨w',g',h1,h2,h4⟩:=h a.eval w g hw hr;exact Zb7 h1 (hK undef w' g' h2 (.junk _ _) h4)
theorem YX{o:Oper}{e:Af}{S:Ae}{v:AV}(h:Fy P e o.op=some v):AR P o e S v S:=
 Dj fun ρ w g hw hr=>by
  obtain⟨cv,h1,h2⟩:=Zka (w:=w) (g:=g) h hr;exact⟨cv,w,g,h1,hw,h2,Evo.refl w g⟩
def RQ:Value→Bool
 |.slice none _ _=>true
 |_=>false
def nilC:Operand→Bool
 |.const v=>RQ v
 |_=>false
def IA(op:BinOp)(x:AV):Option AV:=
 match x with
 |.sl _ (_::_)=>match op with
  |.eql=>some (.bo false)
  |.neq=>some (.bo true)
  |_=>none
 |.ot (.slice A _ _)=>match op with
  |.eql=>some (.bo A.isNone)
  |.neq=>some (.bo A.isSome)
  |_=>none
 |_=>none
def GA(P:Program)(op:BinOp)(t:TypeId)(e:Af)(x y:Operand):Option AV:=
 if nilC y then(if(Bt P t).isSome then IA op (ev e x)else none)else EF P op t (ev e x) (ev e y)
theorem Zgf{w:World}{t:TypeId}(ht:(Bt P t).isSome=true)(A:Option Addr)(n c m k:Nat):(Op.equal t (.slice A n c) (.slice none m k)).run P w=.ok A.isNone w:=by
 obtain⟨⟨e,sz,ag⟩,hs⟩:=Option.isSome_iff_exists.1 ht;have hu:=(Ep hs).1;have h0:∀d,(Op.equalIn (d+1) t (.slice A n c) (.slice none m k)).run P w=.ok A.isNone w:=fun d=>by
  cases A<;>simp[Op.equalIn,run_underlying hu]
 exact h0 9999
theorem Zit{o:Oper}{e:Af}{S:Ae}{v:AV}{op:BinOp}{t yt:TypeId}{x y:Operand}(ho:o.op=.binOp op t x y yt)(hy:nilC y=true)(ht:(Bt P t).isSome=true)(h:IA op (ev e x)=some v):AR P o e S v S:=by
 intro a w g hw hr K Q hK;obtain⟨m,k,rfl⟩:∃m k,y=.const (.slice none m k):=by
  cases y with
  | const c=>
   cases c with
   |slice A m k=>cases A with
    |none=>exact⟨m,k,rfl⟩
    |some _=>simp[nilC,RQ]at hy
   |_=>simp[nilC,RQ]at hy
  |_=>simp[nilC]at hy
 have hx:=hr x (by rw[ho];simp[Op.operands])
 have hrun:∃cv,(do eqGuard op t x (.const (.slice none m k)) (a.eval x) (.slice none m k);binOp op t (a.eval x) (.slice none m k):Sem Value).run P w=.ok cv w∧Rel w g v cv:=by
  generalize a.eval x=cx at hx;generalize ev e x=X at hx h;have key:∀(A:Option Addr) (n c:Nat),cx=.slice A n c→(op=.eql∧v=.bo A.isNone∨op=.neq∧v=.bo A.isSome) →
    ∃cv,(do eqGuard op t x (.const (.slice none m k)) cx (.slice none m k);binOp op t cx (.slice none m k):Sem Value).run P w=.ok cv w∧Rel w g v cv:=by
   rintro A n c rfl hop
   have he:=Zgf (w:=w) ht A n c m k;rcases hop with⟨rfl,rfl⟩|⟨rfl,rfl⟩
   ·exact⟨.bool A.isNone,by simp[eqGuard,binOp,he],.bo g _⟩
   ·exact⟨.bool A.isSome,by cases A<;>simp[eqGuard,binOp,he],.bo g _⟩
  unfold IA at h;split at h
  ·cases hx with
   |sl _ _ _ A c sz cu hc hcm hsz hA h1 hr hm=>
    obtain⟨b,o',rfl,_⟩:=hA (by simp)
    refine key _ _ _ rfl ?_
    split at h<;>cases h
    ·exact .inl ⟨rfl,rfl⟩
    ·exact .inr ⟨rfl,rfl⟩
  ·cases hx
   refine key _ _ _ rfl ?_
   split at h<;>cases h
   ·exact .inl ⟨rfl,rfl⟩
   ·exact .inr ⟨rfl,rfl⟩
  ·cases h
 obtain⟨cv,h1,h2⟩:=hrun;have hrun:(execOp a.eval o).run P w=.ok (.value cv) w:=by
  unfold execOp;rw[ho];dsimp only;rw[Sem.run_bind];have he:a.eval (.const (.slice none m k))=.slice none m k:=rfl;rw[he,h1];rfl
 exact Ui hrun (hK cv w g hw h2 (Evo.refl w g))
def D7(sz:Option (Nat×Bool))(S:Ae)(x:AV):Option AV:=
 match sz,x with
 |some (sz,ag),.ptr l off=>match S[l]? with
  |some (.cells cs)=>apart cs off sz ag
  |_=>none
 |some (sz,ag),.pst v off=>apart v.cells off sz ag
 |some (sz,ag),.wr l n (some off)=>match S[l]? with
  |some (.row cs _ z)=>if 0<sz∧cs.length=n*z then apart cs off sz ag else none
  |_=>none
 |_,_=>none
theorem Rel.ofNoid{w:World}{g:Gh}{v:AV}{cv:Value}(h:Rel w g.noid v cv):Rel w g v cv:=
 h.le ⟨fun _ _ _ _ h=>h,fun _ _ _ h _=>h,Nat.zero_le _,fun l hl=>absurd hl (Nat.not_lt_zero _),fun _ _ _ h h'=>⟨h,h'⟩⟩
theorem ZgA(w:World){ty sz:Nat}{ag:Bool}(ht:AJ P ty=some (sz,ag))(b o:Nat)(us:List Value)(hl:us.length=sz)(hag:ag=true)
  (hc:∀(j:Nat) u,us[j]? = some u→w.cell? ⟨b,o+j,none⟩=some u):(loadVar ty ⟨b,o,none⟩).run P w=.ok (.agg us.toArray) w:=by
 subst hag;have hl':(loadCells ⟨b,o,none⟩ us.length).run P w=.ok us.toArray w:=run_loadCells_list (P:=P) w ⟨b,o,none⟩ us (fun j v hv=>by rw[Addr.add_lit];exact hc j v hv)
 rw[hl]at hl';simp[loadVar,OK ht,run_sizeOf ht,hl']
theorem Zgz(w:World){ty sz:Nat}(ht:AJ P ty=some (sz,false))(a:Addr)(u:Value)(hc:w.cell? a=some u):(loadVar ty a).run P w=.ok u w:=by
 simp[loadVar,OK ht,hc]
theorem M7{w:World}{g:Gh}{cs:List AV}{arr:Array Value}(hc:AI w g cs arr){b o:Nat}(hcell:∀j,j<arr.size→w.cell? ⟨b,o+j,none⟩=arr[j]?)
  {ty off sz:Nat}{ag:Bool}(ht:AJ P ty=some (sz,ag)){v:AV}(h:apart cs off sz ag=some v):∃cv,(loadVar ty ⟨b,o+off,none⟩).run P w=.ok cv w∧Rel w g v cv:=by
 cases ag with
 | true=>
  obtain⟨h1,h2⟩:=Zam hc.1 hc.2.1 hc.2.2 h;refine⟨.agg (arr.extract off (off+sz)),?_,h2⟩
  have hl:((arr.extract off (off+sz)).toList).length=sz:=by simp;omega
  have :=ZgA (P:=P) w ht b (o+off) (arr.extract off (off+sz)).toList hl rfl (fun j u hu=>by
   have hu':=hu;rw[Array.getElem?_toList]at hu'
   rw[Array.getElem?_extract]at hu'
   split at hu'
   ·have hlt:=(Array.getElem?_eq_some_iff.1 hu').1
    rw[Nat.add_assoc,hcell _ hlt];exact hu'
   ·cases hu')
  rw[Array.toArray_toList]at this;exact this
 |false=>
  simp only[apart,Bool.false_eq_true,if_false]at h;have hlt:off<cs.length:=(List.getElem?_eq_some_iff.1 h).1
  have hlt':off<arr.size:=by rw[hc.1];exact hlt
  have hv:arr[off]? = some arr[off]:=Array.getElem?_eq_getElem hlt'
  exact⟨arr[off],Zgz w ht _ _ (by rw[hcell _ hlt',hv]),hc.2.2 off v _ h hv⟩
theorem O0{w:World}{g:Gh}{S:Ae}(h:WF w g S){l:Nat}{cs:List AV}(hl:S[l]? = some (.cells cs)):∃arr T,∃fr:Nat×Nat,w.heap[g.pl l]? = some (.cells arr T fr)∧fr.2≤fr.1∧AI w g cs arr ∧
  l<g.nid∧g.buf l=false∧g.own l (g.pl l)∧g.G (g.pl l)=0:=by
 obtain⟨h1,h2,h3,arr,T,fr,h4,h5,h6,h7,h8⟩:=h.obj l _ hl;exact⟨arr,T,fr,h4,h5,⟨h6,h7,h8⟩,by rw[h.nid];exact(List.getElem?_eq_some_iff.1 hl).1,h1,h2,h3⟩
theorem Wx{w:World}{g:Gh}{S:Ae}(h:WF w g S){l:Nat}{cs:List AV}{e:TypeId}{sz:Nat}(hl:S[l]? = some (.row cs e sz))(hne:cs≠[]):∃arr,∃fr:Nat×Nat,w.heap[g.pl l]? = some (.cells arr e fr)∧fr.2≤fr.1∧AI w g cs (arr.extract 0 cs.length) ∧
  l<g.nid∧g.buf l=true∧g.own l (g.pl l)∧g.G (g.pl l)=0∧arr.size=g.cap l*sz∧cs.length≤arr.size∧(0<sz∧cs.length=g.wm l*sz):=by
 obtain⟨h1,h2,h3⟩:=h.obj l _ hl;rcases h3 with⟨_,h4⟩|⟨h3,h4,arr,fr,h5,h6,h7,h8,h9,h10⟩
 ·exact absurd h4 hne
 ·refine⟨arr,fr,h5,h6,⟨by simp;omega,fun v hv=>?_,fun j u v hu hv=>h10 j u v hu ?_⟩,by rw[h.nid];exact(List.getElem?_eq_some_iff.1 hl).1,h1,h3,h4,h7,h8,h2⟩
  ·obtain⟨j,hj⟩:=List.mem_iff_getElem?.1 hv
   rw[Array.getElem?_toList,Array.getElem?_extract]at hj
   split at hj
   ·rename_i hlt
    exact h9 j v (by simpa using hj) (by omega)
   ·cases hj
  ·rw[Array.getElem?_extract]at hv
   split at hv
   ·simpa using hv
   ·cases hv
theorem Zkg{cs:List AV}{off sz:Nat}{ag:Bool}{v:AV}(h:apart cs off sz ag=some v)(h0:0<sz):cs≠[]:=by
 rintro rfl
 unfold apart at h;cases ag with
 | true=>
  simp only[if_true]at h;split at h
  ·rename_i h1
   simp at h1;omega
  ·split at h
   ·rename_i h1
    simp at h1;omega
   ·cases h
 |false=>simp at h
theorem Vr{w:World}{g:Gh}{l n off wm sz k:Nat}{cx:Value}(hx:Rel w g (.wr l n (some off)) cx)(hsz:0<sz)(h1:k=g.wm l*sz)(h2:k=n*sz):cx=.pointer (some ⟨g.pl l,off,none⟩):=by
 cases hx with
 |wp _ _ _ _ b o hl hb hw hA=>
  have:n=g.wm l:=Nat.eq_of_mul_eq_mul_right hsz (by omega)
  rcases hA with hA|⟨rfl,rfl⟩
  ·omega
  ·rfl
theorem Vs{w:World}{g:Gh}{S:Ae}(hw:WF w g S){ty sz l n off z:Nat}{el:TypeId}{ag:Bool}{cs:List AV}{cx:Value}{v:AV}(hs:AJ P ty=some (sz,ag))(hS:S[l]? = some (.row cs el z))(hc0:0<sz∧cs.length=n*z)(h:apart cs off sz ag=some v)
  (hx:Rel w g (.wr l n (some off)) cx):∃ad cv,cx=.pointer (some ad)∧(loadVar ty ad).run P w=.ok cv w∧Rel w g v cv:=by
 obtain⟨arr,fr,h4,h5,hc,hl,_,_,_,_,hle,hz⟩:=Wx hw hS (Zkg h hc0.1);have hp:=Vr (wm:=0) hx hz.1 hz.2 hc0.2;obtain⟨cv,h1,h2⟩:=M7 (P:=P) hc (b:=g.pl l) (o:=0) (fun j hj=>by
  have hj':j<cs.length:=by simp at hj;omega
  rw[Nat.zero_add,cell_of_row w (g.pl l) j arr el fr h4,Array.getElem?_extract,if_pos (by omega),Nat.zero_add]) hs h
 rw[Nat.zero_add]at h1;exact⟨_,cv,hp,h1,h2⟩
theorem S9{o:Oper}{e:Af}{S:Ae}{v:AV}{ty:TypeId}{x:Operand}(ho:o.op=.load ty x)(h:D7 (AJ P ty) S (ev e x)=some v):AR P o e S v S:=
 Dj fun ρ w g hw hr=>by
  have hx:=hr x (by rw[ho];simp[Op.operands])
  unfold D7 at h;split at h
  ·rename_i sz ag l off hs hxe
   split at h
   ·rename_i cs hS
    obtain⟨arr,T,fr,h4,h5,hc,hl,_⟩:=O0 hw hS;rw[hxe]at hx;generalize hcx:ρ x=cx at hx;cases hx
    obtain⟨cv,h1,h2⟩:=M7 (P:=P) hc (b:=g.pl l) (o:=0) (fun j hj=>by rw[Nat.zero_add,cell_of_row w (g.pl l) j arr T fr h4]) hs h
    rw[Nat.zero_add]at h1;refine⟨cv,w,g,?_,hw,h2,Evo.refl w g⟩
    unfold execOp;simp only[ho,hcx,Instr.loadAt,Instr.sureAddr,Sem.run_bind,Sem.run_pure,Result.andThen_ok,h1]
   ·cases h
  ·rename_i sz ag v' off hs hxe
   rw[hxe]at hx;generalize hcx:ρ x=cx at hx;cases hx with
   | pst _ _ _ b o' cu hA h1 hr'=>
    have hc:AI w g v'.cells ((List.range v'.cells.length).map cu).toArray:=by
     refine⟨by simp,fun u hu=>?_,fun j u z hu hz=>?_⟩
     ·simp only[List.mem_map,List.mem_range]at hu
      obtain⟨j,hj,rfl⟩:=hu;exact h1 j hj
     ·have hj:=(List.getElem?_eq_some_iff.1 hu).1
      simp[List.getElem?_range hj]at hz
      rw[←hz];exact(hr' j u hu).ofNoid
    obtain⟨cv,h2,h3⟩:=M7 (P:=P) hc (b:=b) (o:=o') (fun j hj=>by
     have hj':j<v'.cells.length:=by simpa using hj
     rw[(hA j hj').2];simp[List.getElem?_range hj']) hs h
    refine⟨cv,w,g,?_,hw,h3,Evo.refl w g⟩
    unfold execOp;simp only[ho,hcx,Instr.loadAt,Instr.sureAddr,Sem.run_bind,Sem.run_pure,Result.andThen_ok,h2]
  ·rename_i sz ag l n off hs hxe
   split at h
   ·rename_i cs el z hS
    split at h
    ·rename_i hc0
     rw[hxe]at hx;generalize hcx:ρ x=cx at hx;obtain⟨ad,cv,rfl,h1,h2⟩:=Vs (P:=P) hw hs hS hc0 h hx;refine⟨cv,w,g,?_,hw,h2,Evo.refl w g⟩
     unfold execOp;simp only[ho,hcx,Instr.loadAt,Instr.sureAddr,Sem.run_bind,Sem.run_pure,Result.andThen_ok,h1]
    ·cases h
   ·cases h
  ·cases h
def Iw(sz:Option (Nat×Bool))(S:Ae)(x v:AV):Option Ae:=
 match sz,x with
 |some (sz,_),.ptr l off=>match S[l]? with
  |some (.cells cs)=>if v.solid=true∧v.cells.length=sz∧off+sz≤cs.length then some (S.set l (.cells (Bc cs off v.cells)))else none
  |_=>none
 |some (sz,_),.wr l n (some off)=>match S[l]? with
  |some (.row cs e z)=>if v.solid=true∧v.cells.length=sz∧off+sz≤cs.length∧0<sz∧cs.length=n*z then some (S.set l (.row (Bc cs off v.cells) e z))else none
  |_=>none
 |_,_=>none
theorem ZA{w:World}{g:Gh}{cs us:List AV}{arr ua:Array Value}(h:AI w g cs arr)(hu:AI w g us ua){off:Nat}(hle:off+us.length≤cs.length):
  AI w g (Bc cs off us) (arr.toList.take off++ua.toList++arr.toList.drop (off+ua.toList.length)).toArray:=by
 have hul:ua.toList.length=us.length:=by simpa using hu.1
 have hal:arr.toList.length=cs.length:=by simpa using h.1
 refine⟨?_,fun v hv=>?_,fun j u v hju hjv=>?_⟩
 ·rw[NU hle]
  simp only[List.size_toArray,List.length_append,List.length_take,List.length_drop];omega
 ·simp only[List.mem_append]at hv
  rcases hv with(hv|hv)|hv
  ·exact h.2.1 v (List.mem_of_mem_take hv)
  ·exact hu.2.1 v hv
  ·exact h.2.1 v (List.mem_of_mem_drop hv)
 ·rw[TR hle]at hju
  simp only[List.getElem?_toArray]at hjv
  rw[List.append_assoc]at hjv;have hlt:(arr.toList.take off).length=off:=by rw[List.length_take];omega
  by_cases h1:j<off
  ·rw[if_neg (by omega)]at hju
   rw[List.getElem?_append_left (by omega),List.getElem?_take_of_lt h1]at hjv
   exact h.2.2 j u v hju (by simpa using hjv)
  ·rw[List.getElem?_append_right (by omega),hlt]at hjv
   by_cases h2:j<off+us.length
   ·rw[if_pos ⟨by omega,h2⟩]at hju
    rw[List.getElem?_append_left (by omega)]at hjv
    exact hu.2.2 _ u v hju (by simpa using hjv)
   ·rw[if_neg (by omega)]at hju
    rw[List.getElem?_append_right (by omega),List.getElem?_drop,show off+ua.toList.length+(j-off-ua.toList.length)=j from by omega]at hjv
    exact h.2.2 j u v hju (by simpa using hjv)
theorem Le.setRow{w:World}{g:Gh}{b:Nat}(h0:g.G b=0)(cs:Array Value):Le w g (w.setRow b cs) g:=by
 refine⟨fun b' o v hb hv=>?_,fun _ _ _ h _=>h,Nat.le_refl _,fun _ _=>⟨rfl,.inl ⟨rfl,rfl,rfl⟩⟩,fun b' me c hg hm=>⟨hg,(setRow_other w b b' cs (fun e=>by subst e;omega)).trans hm⟩⟩
 have hne:b'≠b:=fun e=>by subst e;omega
 rw[World.cell?_of_block (w:=w) (w':=w.setRow b cs) (setRow_other w b b' cs hne)]
 exact hv
theorem Zir{o:Oper}{e:Af}{S S':Ae}{ty:TypeId}{x y:Operand}(ho:o.op=.store ty x y)(h:Iw (AJ P ty) S (ev e x) (ev e y)=some S'):AR P o e S .junk S':=
 S7 fun ρ w g hw hr=>by
  have hx:=hr x (by rw[ho];simp[Op.operands])
  have hy:=hr y (by rw[ho];simp[Op.operands])
  unfold Iw at h;split at h
  ·rename_i sz ag l off hs hxe
   split at h
   ·rename_i cs hS
    split at h
    ·rename_i hcond
     obtain⟨hsol,hlen,hle⟩:=hcond;cases h
     obtain⟨arr,T,fr,h4,h5,hc,hl,hb,hown,hG⟩:=O0 hw hS;rw[hxe]at hx;generalize hcx:ρ x=cx at hx;cases hx
     have hu:=PQ hy hsol;have hul:(ρ y).cells.toList.length=sz:=by have :=hu.1;simp;omega
     obtain⟨i,d,hi1,hi2,hi3,hi4⟩:=Qx hs;have hst:=JK (P:=P) (g.pl l) off T fr (ρ y).cells.toList 0 arr w h4 (.inl h5) (by rw[hul];have :=hc.1;omega) hu.2.1
     simp only[Nat.add_zero]at hst;have hle':=Le.setRow (w:=w) hG (arr.toList.take off++(ρ y).cells.toList++arr.toList.drop (off+(ρ y).cells.toList.length)).toArray;have hnew:=ZA hc hu (off:=off) (by omega)
     have hlS:l<S.length:=(List.getElem?_eq_some_iff.1 hS).1
     refine⟨w.setRow (g.pl l) _,g,?_,hw.touch hlS hle' rfl (fun _ _ _=>⟨rfl,rfl,rfl,rfl,rfl⟩) (fun b hb=>.inl hb) (by simp) (fun _ _ _=>rfl) (fun b _ hno=>?_) ?_,⟨hle',rfl,rfl,rfl,by simp,fun b _ hno=>?_,fun _ _ hk hb _=>⟨hk,hb⟩,fun _ _ _=>rfl⟩⟩
     ·unfold execOp
      simp only[ho,hcx,Instr.storeAt,Instr.sureAddr,Sem.run_bind,Sem.run_pure,Result.andThen_ok,storeVar,run_sizeOf hs];have hsz:(ρ y).cells.size=sz:=by rw[hu.1,hlen]
      simp only[hsz,ne_eq,not_true_eq_false,if_false];rw[hst];rfl
     ·exact setRow_other w _ b _ (fun e=>hno (by rw[e];exact hown))
     ·have hnew:=hnew.le hle'
      exact⟨hb,hown,hG,_,T,fr,setRow_heap w (g.pl l) arr _ T fr h4,h5,hnew.1,hnew.2.1,hnew.2.2⟩
     ·exact setRow_other w _ b _ (fun e=>hno l hl (by rw[e];exact hown))
    ·cases h
   ·cases h
  ·rename_i sz ag l n off hs hxe
   split at h
   ·rename_i cs T z hS
    split at h
    ·rename_i hcond
     obtain⟨hsol,hlen,hle,hpos,hnz⟩:=hcond;cases h
     obtain⟨arr,fr,h4,h5,hc,hl,hb,hown,hG,hcap,hcs,hz⟩:=Wx hw hS (fun e=>by subst e;simp at hle;omega)
     rw[hxe]at hx;generalize hcx:ρ x=cx at hx;have hp:=Vr (wm:=0) hx hz.1 hz.2 hnz;subst hp;have hu:=PQ hy hsol;have hul:(ρ y).cells.toList.length=sz:=by have :=hu.1;simp;omega
     have hst:=JK (P:=P) (g.pl l) off T fr (ρ y).cells.toList 0 arr w h4 (.inl h5) (by rw[hul];omega) hu.2.1
     simp only[Nat.add_zero]at hst;have hle':=Le.setRow (w:=w) hG (arr.toList.take off++(ρ y).cells.toList++arr.toList.drop (off+(ρ y).cells.toList.length)).toArray;have hnew:∀(j:Nat) u v,(Bc cs off (ev e y).cells)[j]? = some u→(arr.toList.take off++(ρ y).cells.toList++arr.toList.drop (off+(ρ y).cells.toList.length)).toArray[j]? = some v→Rel w g u v:=by
      intro j u v hju hjv;rw[TR (by omega)]at hju
      simp only[List.getElem?_toArray]at hjv
      rw[List.append_assoc]at hjv;have hlt:(arr.toList.take off).length=off:=by simp;omega
      have hlt':(ev e y).cells.length=sz:=hlen;by_cases h1:j<off
      ·rw[if_neg (by omega)]at hju
       rw[List.getElem?_append_left (by omega),List.getElem?_take_of_lt h1]at hjv
       have hj:j<cs.length:=by omega
       exact hc.2.2 j u v hju (by rw[Array.getElem?_extract,if_pos (by omega)];simpa using hjv)
      ·rw[List.getElem?_append_right (by omega),hlt]at hjv
       by_cases h2:j<off+sz
       ·rw[if_pos ⟨by omega,by omega⟩]at hju
        rw[List.getElem?_append_left (by omega)]at hjv
        exact hu.2.2 _ u v hju (by simpa using hjv)
       ·rw[if_neg (by omega)]at hju
        have hj:j<cs.length:=(List.getElem?_eq_some_iff.1 hju).1
        rw[List.getElem?_append_right (by omega),List.getElem?_drop,show off+(ρ y).cells.toList.length+(j-off-(ρ y).cells.toList.length)=j from by omega]at hjv
        exact hc.2.2 j u v hju (by rw[Array.getElem?_extract,if_pos (by omega)];simpa using hjv)
     have hlS:l<S.length:=(List.getElem?_eq_some_iff.1 hS).1
     refine⟨w.setRow (g.pl l) _,g,?_,hw.touch hlS hle' rfl (fun _ _ _=>⟨rfl,rfl,rfl,rfl,rfl⟩) (fun b hb=>.inl hb) (by simp) (fun _ _ _=>rfl) (fun b _ hno=>?_) ?_,⟨hle',rfl,rfl,rfl,by simp,fun b _ hno=>?_,fun _ _ hk hb _=>⟨hk,hb⟩,fun _ _ _=>rfl⟩⟩
     ·unfold execOp
      simp only[ho,hcx,Instr.storeAt,Instr.sureAddr,Sem.run_bind,Sem.run_pure,Result.andThen_ok,storeVar,run_sizeOf hs];have hsz:(ρ y).cells.size=sz:=by rw[hu.1,hlen]
      simp only[hsz,ne_eq,not_true_eq_false,if_false];rw[hst];rfl
     ·exact setRow_other w _ b _ (fun e=>hno (by rw[e];exact hown))
     ·refine⟨hb,⟨hz.1,by rw[NU (by omega)];exact hz.2⟩,.inr ⟨hown,hG,_,fr,setRow_heap w (g.pl l) arr _ T fr h4,h5,?_,?_,fun j v hjv hj=>?_,fun j u v hju hjv=>(hnew j u v hju hjv).le hle'⟩⟩
      ·rw[←hcap]
       simp only[List.size_toArray,List.length_append,List.length_take,List.length_drop,Array.length_toList]at *;omega
      ·rw[NU (by omega)]
       simp only[List.size_toArray,List.length_append,List.length_take,List.length_drop,Array.length_toList]at *;omega
      ·rw[NU (by omega)]at hj
       have hat:∀(i:Nat) v,arr[i]? = some v→i<cs.length→v.oneCell'=true:=fun i v hi hic=>hc.2.1 v (List.mem_iff_getElem?.2 ⟨i,by rw[Array.getElem?_toList,Array.getElem?_extract,if_pos (by omega)];simpa using hi⟩)
       simp only[List.getElem?_toArray]at hjv
       rw[List.append_assoc]at hjv;have hlt:(arr.toList.take off).length=off:=by simp;omega
       by_cases h1:j<off
       ·rw[List.getElem?_append_left (by omega),List.getElem?_take_of_lt h1]at hjv
        exact hat j v (by simpa using hjv) hj
       ·rw[List.getElem?_append_right (by omega),hlt]at hjv
        by_cases h2:j<off+sz
        ·rw[List.getElem?_append_left (by omega)]at hjv
         exact hu.2.1 v (List.mem_iff_getElem?.2 ⟨_,hjv⟩)
        ·rw[List.getElem?_append_right (by omega),List.getElem?_drop,show off+(ρ y).cells.toList.length+(j-off-(ρ y).cells.toList.length)=j from by omega]at hjv
         exact hat j v (by simpa using hjv) hj
     ·exact setRow_other w _ b _ (fun e=>hno l hl (by rw[e];exact hown))
    ·cases h
   ·cases h
  ·cases h
theorem ZiH{o:Oper}{e:Af}{S:Ae}{ty:TypeId}{x:Operand}(ho:o.op=.box ty x)(h:(ev e x).solid=true):AR P o e S (.ptr S.length 0) (S++[.cells (ev e x).cells]):=
 Dj fun ρ w g hw hr=>by
  have hx:=hr x (by rw[ho];simp[Op.operands])
  obtain⟨g',h1,h2,h3⟩:=hw.new_cells (PQ hx h) ty;refine⟨_,_,g',?_,h1,h3,h2⟩
  unfold execOp;simp only[ho,Instr.box,newVar,newRow,newObj,Sem.run_bind,Sem.run_pure,Result.andThen_ok,Sem.run];rfl
def Za0(t:TypeId):World→Nat→(Nat→Prop)→Prop:=fun w p S=>S p∧w.heap[p]? = some (.cells #[.pointer none,.slice none 0 0] t (0,0))
def HQ:List AV→Bool
 |[.ot (.pointer none),.sl .full []]=>true
 |_=>false
def GD(t:TypeId)(z:List AV):SObj:=match HQ z with
 |true=>.ext (Za0 t)
 |false=>.cells z
theorem ZbX{arr:Array Value}(h:HQ (arr.toList.map Dk)=true):arr = #[.pointer none,.slice none 0 0]:=by
 obtain⟨l⟩:=arr;simp only at h
 have e1:∀v,Dk v=.ot (.pointer none)→v=.pointer none:=fun v hv=>by
  unfold Dk at hv;split at hv<;>first|(simp only[AV.ot.injEq]at hv;exact hv)|(cases hv;done)
 have e2:∀v,Dk v=.sl .full []→v=.slice none 0 0:=fun v hv=>by
  unfold Dk at hv;split at hv<;>first|rfl|(cases hv;done)
 unfold HQ at h;split at h
 ·rename_i hl
  match l,hl with
  |[],hl=>simp at hl
  |[a],hl=>simp at hl
  |[a,b],hl=>
   simp only[List.map_cons,List.map_nil,List.cons.injEq,and_true]at hl;rw[e1 a hl.1,e2 b hl.2]
  |a::b::c::l,hl=>simp at hl
 ·cases h
theorem Y0{o:Oper}{e:Af}{S:Ae}{ty:TypeId}{z:List AV}(ho:o.op=.alloc ty)(h:BF P ty=some z):AR P o e S (.ptr S.length 0) (S++[GD ty z]):=
 Dj fun ρ w g hw hr=>by
  obtain⟨i,zv,h1,h2,h3,rfl⟩:=KG h;have hz:(zeroValue ty).run P w=.ok zv w:=by simp[zeroValue,typeInfo,h1,h2]
  have key:∃g',WF (w.alloc (.cells zv.cells ty)) g' (S++[GD ty (zv.cells.toList.map Dk)])∧Evo w g (w.alloc (.cells zv.cells ty)) g'∧Rel (w.alloc (.cells zv.cells ty)) g' (.ptr S.length 0) (.pointer (some ⟨w.heap.size,0,none⟩)):=by
   unfold GD;cases hf:HQ (zv.cells.toList.map Dk)with
   |false=>exact hw.new_cells (Tj w g _ h3) ty
   | true=>
    have he:=ZbX hf;rw[he];obtain⟨h1,h2⟩:=hw.alloc_push (.cells #[.pointer none,.slice none 0 0] ty) false 0 0 0 (o:=.ext (Za0 ty)) (by
     refine⟨by simp[Gh.push],by simp[Gh.push],fun b hb=>by simp only[Gh.push,if_true]at hb ⊢;rw[if_pos hb],fun w' hs=>⟨by simp[Gh.push],?_⟩⟩
     simp only[Gh.push,if_true]at hs ⊢;rw[hs _ rfl];exact heap_alloc_new w _)
    refine⟨_,h1,h2,?_⟩
    have :=Rel.ptr (w:=w.alloc (.cells #[.pointer none,.slice none 0 0] ty)) (g.push w.heap.size false 0 0 0) g.nid 0 (by simp[Gh.push]) (by simp[Gh.push])
    have hp:(g.push w.heap.size false 0 0 0).pl g.nid=w.heap.size:=by simp[Gh.push]
    rw[hp]at this;have hn:=hw.nid;rw[hn]at this;exact this
  obtain⟨g',h4,h5,h6⟩:=key;refine⟨_,_,g',?_,h4,h6,h5⟩
  unfold execOp;simp only[ho,Instr.alloc,newVar,newRow,newObj,Sem.run_bind,hz,Sem.run_pure,Result.andThen_ok,Sem.run];rfl
end
end Pe
namespace Pe
open Go Go.RowKit
variable [Tab]
def AV.ro1:AV→AV
 |.sl (.own _) es=>.sl .ro es
 |.ptr _ _=>.junk
 |.mp _=>.junk
 |.ws _ _ _ _=>.junk
 |.wr _ _ _=>.junk
 |.wx _ _ _ _=>.junk
 |.fn f [] []=>.fn f [] []
 |.fn _ _ _=>.junk
 |v=>v
def AV.ro:AV→AV
 |.agg cs=>.agg (cs.map AV.ro1)
 |.tup _=>.junk
 |v=>v.ro1
section
variable {P:Program} {w:World} {g:Gh}
theorem KB.noid{m:Mode}{n c:Nat}{A:Option Addr}(h:KB g m n A c)(hm:∀l,m≠.own l):KB g.noid m n A c:=by
 cases m with
 |ro=>trivial
 |full=>exact h
 |own l=>exact absurd rfl (hm l)
theorem Rel.ro1{v:AV}{cv:Value}(h:Rel w g v cv)(hag:∀cs,v≠.agg cs)(ht:∀cs,v≠.tup cs):Rel w g.noid v.ro1 cv:=by
 cases h with
 |bo=>exact .bo _ _
 |it=>exact .it _ _ _
 |st=>exact .st _ _
 |ot _ _ h=>exact .ot _ _ h
 |junk=>exact .junk _ _
 |sl _ m es A c sz cu hc hcm hsz hA h1 hr hm=>
  cases m with
  |ro=>exact .sl _ .ro es A c sz cu hc hcm hsz hA h1 hr trivial
  |full=>exact .sl _ .full es A c sz cu hc hcm hsz hA h1 hr hm
  |own l=>exact .sl _ .ro es A c sz cu hc hcm hsz hA h1 hr trivial
 |agg _ cs=>exact absurd rfl (hag cs)
 |tup _ cs=>exact absurd rfl (ht cs)
 |ptr=>exact .junk _ _
 |pst _ e off b o cu hA h1 hr=>exact .pst _ e off b o cu hA h1 hr
 | fn _ f first caps fa ca hf hc' hrf hrc=>
  unfold AV.ro1;split
  ·rename_i h;cases h
  ·rename_i h;cases h
  ·rename_i h;cases h
  ·rename_i h;cases h
  ·rename_i h;cases h
  ·rename_i h;cases h
  ·rename_i h
   cases h
   exact .fn _ f [] [] fa ca hf hc' (by simp) (by simp)
  ·exact .junk _ _
  ·rename_i h;exact absurd rfl (h f first caps)
 |mp=>exact .junk _ _
 |fm _ es b me clock hG hb hs hk hv=>exact .fm _ es b me clock hG hb hs hk hv
 |ws=>exact .junk _ _
 |wr=>exact .junk _ _
 |wp=>exact .junk _ _
 |wx=>exact .junk _ _
theorem ZfW{v:AV}{cv:Value}(h:Rel w g v cv)(h1:cv.oneCell'=true):(∀cs,v≠.agg cs) ∧ ∀cs,v≠.tup cs:=by
 constructor
 ·intro cs e;subst e;cases h;simp[Value.oneCell']at h1
 ·intro cs e;subst e;cases h;simp[Value.oneCell']at h1
theorem AI.ro{cs:List AV}{arr:Array Value}(h:AI w g cs arr):AI w g.noid (cs.map AV.ro1) arr:=by
 refine⟨by simpa using h.1,h.2.1,fun j u v hu hv=>?_⟩
 rw[List.getElem?_map]at hu
 obtain⟨u',hu',rfl⟩:=Option.map_eq_some_iff.1 hu;have hr:=h.2.2 j u' v hu' hv;have h1:=h.2.1 v (List.mem_iff_getElem?.2 ⟨j,by simpa using hv⟩)
 obtain⟨ha,ht⟩:=ZfW hr h1;exact hr.ro1 ha ht
theorem Vy(v:AV)(h:v.solid=true):v.ro.cells=v.cells.map AV.ro1:=by
 cases v with
 |agg cs=>rfl
 |tup vs=>simp[AV.solid]at h
 |junk=>rfl
 |sl m es=>cases m<;>rfl
 |fn f a b=>cases a<;>cases b<;>rfl
 |_=>rfl
theorem Zgg{es:List AV}{arr:Array Value}(m:Mode)(hmode:m=.ro∨m=.full)(hc:AI w g.noid (Ak es) arr){sz:Nat}(hsz:∀e∈es,e.cells.length=sz)(hm:es.length≤maxLen)(T:TypeId):
  Rel (w.alloc (.cells arr T)) (g.stab w.heap.size arr.size) (.sl m es) (.slice (some ⟨w.heap.size,0,none⟩) es.length es.length):=by
 refine .sl _ m es _ _ sz (fun j=>arr.getD j undef) (Nat.le_refl _) hm hsz (fun _=>⟨w.heap.size,0,rfl,fun j hj=>?_⟩) (fun j hj=>?_) (fun j u hu=>?_) ?_
 ·have hj':j<arr.size:=by rw[hc.1];exact hj
  refine⟨by simp[Gh.stab];exact hj',?_⟩
  rw[Nat.zero_add,cell_of_row _ _ j arr T (0,0) (heap_alloc_new w _)];simp[Array.getD,hj']
 ·have hj':j<arr.size:=by rw[hc.1];exact hj
  refine hc.2.1 _ ?_
  simp[Array.getD,hj']
 ·have hj:=(List.getElem?_eq_some_iff.1 hu).1
  have hj':j<arr.size:=by rw[hc.1];exact hj
  have:arr[j]? = some (arr.getD j undef):=by simp[Array.getD,hj']
  exact(hc.2.2 j u _ hu this).le (Le.stab_new w g (.cells arr T) arr.size).noid
 ·rcases hmode with rfl|rfl
  ·trivial
  ·exact rfl
theorem TU(pl:List (Nat×Nat))(sz:Nat):∀(qs:List (Nat×AV)) (k:Nat) (done:List AV),done.length=k*sz→qs.map (·.1)=List.range' k qs.length→(∀q∈qs,q.2.solid=true∧q.2.cells.length=sz) →
  (∀i,k≤i→i<k+qs.length→pl[i]? = some (i*sz,sz))→FB pl (done++List.replicate (qs.length*sz) .junk) qs=some (done++Ak (qs.map (·.2)))
 |[],k,done,h,hq,hv,hpl=>by simp[FB,Ak]
 | (i,v)::qs,k,done,h,hq,hv,hpl=>by
  simp only[List.map_cons,List.length_cons,List.range'_succ,List.cons.injEq]at hq;obtain⟨rfl,hq⟩:=hq;obtain⟨h1,h2⟩:=hv (i,v) (by simp)
  simp only at h1 h2
  have hp:=hpl i (Nat.le_refl _) (by simp)
  have ih:=TU pl sz qs (i+1) (done++v.cells) (by rw[List.length_append,h,h2,Nat.add_mul];omega) hq (fun q hq=>hv q (by simp[hq])) (fun j h1 h2=>hpl j (by omega) (by simp;omega))
  simp only[FB,hp];have e:Bc (done++List.replicate ((qs.length+1)*sz) .junk) (i*sz) v.cells=done++v.cells++List.replicate (qs.length*sz) .junk:=by
   unfold Bc;rw[List.take_left' h,←h,←List.drop_drop,List.drop_left,List.drop_replicate,h2];congr 2
   rw[Nat.add_mul];omega
  rw[if_pos ⟨h1,h2,by simp only[List.length_append,List.length_replicate,List.length_cons,h];rw[Nat.add_mul];omega⟩]
  rw[show(i,v)::qs=(i,v)::qs from rfl,List.length_cons,e,ih]
  simp[Ak,List.append_assoc]
def Jw(P:Program)(t:TypeId)(n:Nat)(qs:List (Nat×AV)):Option AV:=
 match Bt P t with
 |some (_,sz,_)=>if qs.map (·.1)=List.range' 0 n∧(qs.all fun q=>q.2.solid&&q.2.cells.length==sz)=true∧n*sz≤16777216∧0<sz then some (.sl .full ((qs.map (·.2)).map AV.ro))else none
 |none=>none
theorem Zez(v:AV)(h:v.solid=true):v.ro.cells.length=v.cells.length:=by rw[Vy v h,List.length_map]
theorem ZhU(es:List AV)(h:∀e∈es,e.solid=true):Ak (es.map AV.ro)=(Ak es).map AV.ro1:=by
 induction es with
 |nil=>rfl
 |cons e es ih=>
  simp only[Ak,List.map_cons,List.flatMap_cons,List.map_append]at *;rw[ih (fun x hx=>h x (by simp[hx])),Vy e (h e (by simp))]
theorem ZiB{o:Oper}{e:Af}{S:Ae}{v:AV}{t:TypeId}{n:Nat}{parts:Array (Nat×Operand)}(ho:o.op=.buildSlice t n parts)
  (h:Jw P t n (parts.toList.map fun p=>(p.1,ev e p.2))=some v)(hz:∀e' sz ag,Bt P t=some (e',sz,ag)→(BF P e').isSome=true):AR P o e S v S:=
 Dj fun ρ w g hw hr=>by
  unfold Jw at h;split at h
  ·rename_i el sz ag hs
   split at h
   ·rename_i hcond
    obtain⟨hq,hall,hn,hsz⟩:=hcond;cases h
    obtain⟨hu,hse⟩:=Ep hs;obtain⟨z,hzz⟩:=Option.isSome_iff_exists.1 (hz el sz ag hs);obtain⟨iz,zv,hz1,hz2,hz3,_⟩:=KG hzz;have hqs:∀q∈parts.toList.map (fun p=>(p.1,ev e p.2)),q.2.solid=true∧q.2.cells.length=sz:=fun q hq=>by
     have :=(List.all_eq_true.1 hall) q hq;simpa using this
    generalize hzero:(if n*sz=0 then(#[]:Array Value)else zv.cells)=zero at *
    have hzc:∀k:Nat,Value.oneCell' (zero[k]!)=true:=by
     intro k;rw[getElem!_def];split
     ·rename_i x hx
      rw[←hzero]at hx;split at hx
      ·simp at hx
      ·exact hz3 x (List.mem_iff_getElem?.2 ⟨k,by simpa using hx⟩)
     ·rfl
    have hc0:AI w g (List.replicate (n*sz) .junk) ((Array.range (n*sz)).map (zero[· % zero.size]!)):=by
     refine⟨by simp,fun v hv=>?_,fun j u v hu hv=>?_⟩
     ·simp only[Array.toList_map,List.mem_map]at hv
      obtain⟨k,_,rfl⟩:=hv;exact hzc _
     ·rw[List.getElem?_replicate]at hu
      split at hu
      ·cases hu;exact .junk _ _
      ·cases hu
    have hlen:(parts.toList.map (fun p=>(p.1,ev e p.2))).length=n:=by
     have :=congrArg List.length hq;simpa using this
    have hfill:=TU ((List.range n).map fun k=>(k*sz,sz)) sz (parts.toList.map fun p=>(p.1,ev e p.2)) 0 [] (by simp) (by rw[hlen];exact hq) hqs (fun i _ hi=>by
     rw[hlen]at hi;rw[List.getElem?_map,List.getElem?_range (by omega)]
     rfl)
    rw[hlen]at hfill;simp only[List.nil_append]at hfill;obtain⟨arr,h1,h2⟩:=NV (w:=w) (g:=g) ((List.range n).map fun k=>(k*sz,sz)) (fun k=>some (k*sz,sz)) (fun i p hp=>by
     rw[List.getElem?_map]at hp
     obtain⟨a,ha,rfl⟩:=Option.map_eq_some_iff.1 hp;obtain⟨hlt,he⟩:=List.getElem?_eq_some_iff.1 ha
     simp at he
     rw[he]) parts.toList e ρ _ _ _ hc0 (fun p hp=>hr p.2 (by rw[ho];simp only[Op.operands];exact List.mem_map.2 ⟨p,hp,rfl⟩)) hfill
    have hsol:∀x∈(parts.toList.map fun p=>(p.1,ev e p.2)).map (·.2),x.solid=true∧x.cells.length=sz:=fun x hx=>by
     obtain⟨q,hq,rfl⟩:=List.mem_map.1 hx;exact hqs q hq
    have h3:=h2.ro;rw[←ZhU _ (fun x hx=>(hsol x hx).1)]at h3
    have hlen2:(((parts.toList.map fun p=>(p.1,ev e p.2)).map (·.2)).map AV.ro).length=n:=by rw[List.length_map,List.length_map];exact hlen
    have hmx:n≤maxLen:=by
     have:n≤n*sz:=Nat.le_mul_of_pos_right _ hsz;unfold maxLen;omega
    obtain⟨hw',hevo⟩:=hw.alloc_stab (.cells arr el) arr.size;have hrel:=Zgg (w:=w) (g:=g) .full (.inr rfl) h3 (sz:=sz) (fun x hx=>by
     obtain⟨y,hy,rfl⟩:=List.mem_map.1 hx;rw[Zez y (hsol y hy).1];exact(hsol y hy).2) (by rw[hlen2];exact hmx) el
    refine⟨_,_,_,?_,hw',hrel,hevo⟩
    rw[hlen2];have h1':Instr.fill (fun k=>some (k*sz,sz)) ((Array.range (n*sz)).map (zero[· % zero.size]!)) ((parts.map fun(i,x)=>(i,ρ x)).toList)=some arr:=by
     rw[←h1];simp
    unfold execOp;simp only[ho,Instr.buildSlice,Sem.run_bind,run_underlying hu,Result.andThen_ok,run_sizeOf hse];have hnn:¬n*sz>2^24:=by omega
    simp only[if_neg hnn];by_cases h0:n*sz=0
    ·rw[if_pos h0]at hzero
     subst hzero;simp only[if_pos h0,Sem.run_bind,Sem.run_pure,Result.andThen_ok,h1',newRow,newObj,Sem.run];rfl
    ·rw[if_neg h0]at hzero
     subst hzero;have hzv:(zeroValue el).run P w=.ok zv w:=by simp[zeroValue,typeInfo,hz1,hz2]
     simp only[if_neg h0,Sem.run_bind,hzv,Sem.run_pure,Result.andThen_ok,h1',newRow,newObj,Sem.run];rfl
   ·cases h
  ·cases h
end
end Pe
namespace Pe
open Go Go.RowKit
variable [Tab]
def Cz(P:Program)(t:TypeId):Option (TypeId×Nat×Nat):=
 match P.underlying t with
 | some (.slice e)=>match P.info? e with
  |some i=>match i.zero with
   |some z=>if z.cells.size=i.size∧0<i.size then some (e,i.size,i.bytes)else none
   |none=>none
  |none=>none
 |_=>none
theorem Ir{P:Program}{t e sz by_:Nat}(h:Cz P t=some (e,sz,by_)):P.underlying t=some (.slice e)∧0<sz ∧ ∃i z,P.info? e=some i∧i.zero=some z∧i.size=sz∧i.bytes=by_∧z.cells.size=sz:=by
 unfold Cz at h;split at h
 ·rename_i e' hu
  split at h
  ·rename_i i hi
   split at h
   ·rename_i z hz
    split at h
    ·rename_i hc
     simp only[Option.some.injEq,Prod.mk.injEq]at h;obtain⟨rfl,rfl,rfl⟩:=h;exact⟨hu,hc.2,i,z,hi,hz,rfl,rfl,hc.1⟩
    ·cases h
   ·cases h
  ·cases h
 ·cases h
section
variable {P:Program} {w:World} {g:Gh} {S:Ae}
theorem WF.draw(h:WF w g S)(n:Nat):WF { w with drawn:=n } g S:=by
 refine⟨h.nid,fun l o hl=>?_,h.disj,h.lt,h.tab.le (Evo.draw w g n).toLe⟩
 exact(h.obj l o hl).keep (Evo.draw w g n).toLe rfl rfl rfl rfl rfl (fun _ _=>rfl) (fun _ _=>rfl)
structure Src(P:Program)(w:World)(u:TypeId)(x:Value)(sz m:Nat)(us:List Value):Prop where
 len:(Builtin.lenOf x).run P w=.ok m w
 ty:∃d,P.underlying u=some d ∧ ∀k,d≠.int k
 first:(Builtin.firstCells sz m x).run P w=.ok us.toArray w
 firstd:(Builtin.firstCells sz m x).run P w.drew=.ok us.toArray w.drew
 size:us.length=m*sz
 one:∀v∈us,v.oneCell'=true
theorem Mo{t u ty e:TypeId}{i:TypeInfo}{z:Value}(ht:P.underlying t=some (.slice e))(hi:P.info? e=some i)(hz:i.zero=some z){x:Value}{m:Nat}{us:List Value}(hs:Src P w u x i.size m us)
  {base:Option Addr}{n c:Nat}{olds:List Value}(holds:(Builtin.firstCells i.size n (.slice base n c)).run P w.drew=.ok olds.toArray w.drew)
  (hg:c<n+m)(h63:n+m≤9223372036854775807)(hfit:Builtin.nextslicecap (n+m) c*i.bytes≤281474976710656):
  (Builtin.append_ #[t,u] ty #[.slice base n c,x]).run P w =
   .ok (.slice (some ⟨w.heap.size,0,none⟩) (n+m) (grownCap w (n+m) c e))
    (w.drew.alloc (.cells (olds.toArray++us.toArray++Builtin.zeroCells z.cells (grownCap w (n+m) c e-(n+m))) e)):=by
 obtain⟨d,hu,hd⟩:=hs.ty;have hn:¬(n+m≤c):=by omega
 have h63':¬(9223372036854775807<((n:Int)+(m:Int))):=by omega
 have h48':¬(281474976710656<Builtin.nextslicecap (n+m) c*i.bytes):=by omega
 have hm:(match d with |.int _=>true|_=>false)=false:=by cases d<;>first|rfl|exact absurd rfl (hd _)
 have hf:=hs.firstd;have hl:=hs.len;simp only[Builtin.append_,List.getElem?_toArray,List.getElem?_cons_zero,List.getElem?_cons_succ,Sem.run_bind,run_underlying ht,run_underlying hu,Result.andThen_ok,sizeOf,typeInfo,run_program,hi,Sem.run_pure,hm,Bool.false_eq_true,if_false,hl,hn,Bool.not_false,if_true,or_false,false_or]
 simp[h63',h48',Question.forced,zeroValue,typeInfo,hi,hz,holds,hf,newRow,grownCap]
 first|rfl|(congr 2;apply Array.ext';simp[List.append_assoc])
theorem P0{t u ty e:TypeId}{i:TypeInfo}(ht:P.underlying t=some (.slice e))(hi:P.info? e=some i){x:Value}{m:Nat}{us:List Value}(hs:Src P w u x i.size m us)
  {b n c:Nat}{cur:Array Value}{fr:Nat×Nat}(hb:w.heap[b]? = some (.cells cur e fr))(hfr:fr.2≤fr.1∨cur.size≤fr.1)(hroom:n+m≤c)(hfit:n*i.size+us.length≤cur.size):
  (Builtin.append_ #[t,u] ty #[.slice (some ⟨b,0,none⟩) n c,x]).run P w =
   .ok (.slice (some ⟨b,0,none⟩) (n+m) c) (w.setRow b (cur.toList.take (n*i.size)++us++cur.toList.drop (n*i.size+us.length)).toArray):=by
 obtain⟨d,hu,hd⟩:=hs.ty;have hm:(match d with |.int _=>true|_=>false)=false:=by cases d<;>first|rfl|exact absurd rfl (hd _)
 have hst:=JK (P:=P) b (n*i.size) e fr us 0 cur w hb hfr (by simpa using hfit) hs.one
 simp only[Nat.add_zero]at hst;have hf:=hs.first
 have hl:=hs.len;simp only[Builtin.append_,List.getElem?_toArray,List.getElem?_cons_zero,List.getElem?_cons_succ,Sem.run_bind,run_underlying ht,run_underlying hu,Result.andThen_ok,sizeOf,typeInfo,run_program,hi,Sem.run_pure,hm,Bool.false_eq_true,if_false,hl,hroom,Bool.not_false,if_true,hf,Iu,Nat.zero_add,hst]
theorem NR{t u ty e:TypeId}{i:TypeInfo}(ht:P.underlying t=some (.slice e))(hi:P.info? e=some i){x:Value}(hs:Src P w u x i.size 0 [])
  {base:Option Addr}{n c:Nat}(hc:n≤c):(Builtin.append_ #[t,u] ty #[.slice base n c,x]).run P w=.ok (.slice base n c) w:=by
 obtain⟨d,hu,hd⟩:=hs.ty;have hm:(match d with |.int _=>true|_=>false)=false:=by cases d<;>first|rfl|exact absurd rfl (hd _)
 have hf:=hs.first
 have hl:=hs.len;have hroom:n+0≤c:=hc;simp only[Builtin.append_,List.getElem?_toArray,List.getElem?_cons_zero,List.getElem?_cons_succ,Sem.run_bind,run_underlying ht,run_underlying hu,Result.andThen_ok,sizeOf,typeInfo,run_program,hi,Sem.run_pure,hm,Bool.false_eq_true,if_false,hl,hroom,Bool.not_false,if_true,hf]
 cases base<;>simp[storeCells]
def Fg(P:Program)(u:TypeId)(y:AV):Option (List AV):=
 match y with
 |.sl _ ys=>match Bt P u with
  |some _=>some ys
  |none=>none
 |.st l=>if Ba P u=.str then some (l.map u8)else none
 |.ot (.slice _ 0 _)=>match Bt P u with
  |some _=>some []
  |none=>none
 |_=>none
theorem LA{u sz:Nat}{y:AV}{cy:Value}{ys:List AV}(h:Fg P u y=some ys)(hy:Rel w g y cy)(hall:AH sz ys=true):
  ∃us:List Value,Src P w u cy sz ys.length us∧AI w g.noid (Ak ys) us.toArray:=by
 have hsz:=Em hall;unfold Fg at h;split at h
 ·rename_i m ys'
  split at h
  ·rename_i p hs
   cases h
   obtain⟨e',sz',ag⟩:=p;obtain⟨hu,hse⟩:=Ep hs;cases hy with
   | sl _ _ _ A c sz0 cu hc hcm hsz0 hA h1 hr hm=>
    have hfl:=Ft hsz;refine⟨(List.range (Ak ys).length).map cu,?_,?_⟩
    ·have hcells:∀(w':World),(∀p,w'.cell? p=w.cell? p)→(Builtin.firstCells sz ys.length (.slice A ys.length c)).run P w'=.ok ((List.range (Ak ys).length).map cu).toArray w':=by
      intro w' hw';rcases Nat.eq_zero_or_pos ys.length with h0|h0
      ·have:ys=[]:=List.eq_nil_of_length_eq_zero h0
       subst this;cases A with
       |none=>simp[Builtin.firstCells,Ak]
       |some a=>simp[Builtin.firstCells,Ak,loadCells,loadCellsFrom]
      ·obtain⟨b,o,rfl,hcell⟩:=hA h0
       have :=run_firstCells_some (P:=P) w' sz ys.length ⟨b,o,none⟩ ys.length c ((List.range (Ak ys).length).map cu) (by simp[hfl]) (fun j v hv=>by
        rw[List.getElem?_map]at hv
        obtain⟨k,hk,rfl⟩:=Option.map_eq_some_iff.1 hv;obtain⟨hlt,he⟩:=List.getElem?_eq_some_iff.1 hk
        simp at he hlt
        subst he;rw[Addr.add_lit,hw',(hcell j hlt).2])
       exact this
     refine⟨by simp[Builtin.lenOf],⟨_,hu,by simp⟩,hcells w (fun _=>rfl),hcells w.drew (fun _=>rfl),by simp[hfl],fun v hv=>?_⟩
     simp only[List.mem_map,List.mem_range]at hv;obtain⟨j,hj,rfl⟩:=hv;exact h1 j hj
    ·refine⟨by simp,fun v hv=>?_,fun j u v hu hv=>?_⟩
     ·simp only[List.mem_map,List.mem_range]at hv
      obtain⟨j,hj,rfl⟩:=hv;exact h1 j hj
     ·have hj:=(List.getElem?_eq_some_iff.1 hu).1
      simp[List.getElem?_range hj]at hv
      rw[←hv];exact hr j u hu
  ·cases h
 ·rename_i l
  split at h
  ·rename_i hk
   cases h
   cases hy
   have h1sz:sz=1∨l=[]:=by
    cases l with
    |nil=>exact .inr rfl
    |cons b l=>exact .inl (hsz (u8 b) (by simp)).symm
   have hfirst:∀w':World,(Builtin.firstCells sz (l.map u8).length (.string ⟨l.toArray⟩)).run P w'=.ok (l.map w8).toArray w':=by
    intro w';have :=Go.Lib.run_firstCells_string (P:=P) w' sz ⟨l.toArray⟩;have hs:(⟨l.toArray⟩:ByteArray).size=l.length:=by simp[ByteArray.size]
    rw[hs]at this;rw[List.length_map,this];rfl
   refine⟨l.map w8,⟨?_,⟨_,Gi hk,by simp⟩,hfirst w,hfirst w.drew,?_,M0 l⟩,?_⟩
   ·have hs:(⟨l.toArray⟩:ByteArray).size=l.length:=by simp[ByteArray.size]
    simp only[Builtin.lenOf,Sem.run_pure,hs,List.length_map]
   ·rcases h1sz with rfl|rfl<;>simp
   ·rw[SH]
    refine⟨by simp,M0 l,fun j u v hu hv=>?_⟩
    rw[List.getElem?_map]at hu
    obtain⟨b,hb,rfl⟩:=Option.map_eq_some_iff.1 hu;simp[hb]at hv
    rw[←hv];exact .it _ _ _
  ·cases h
 ·rename_i A c
  split at h
  ·rename_i p hs
   cases h
   obtain⟨e',sz',ag⟩:=p;obtain⟨hu,hse⟩:=Ep hs;cases hy
   have hcells:∀w':World,(Builtin.firstCells sz 0 (.slice A 0 c)).run P w'=.ok #[] w':=by
    intro w';cases A<;>simp[Builtin.firstCells,loadCells,loadCellsFrom]
   exact⟨[],⟨by simp[Builtin.lenOf],⟨_,hu,by simp⟩,hcells w,hcells w.drew,by simp,by simp⟩,⟨rfl,by simp,by simp[Ak]⟩⟩
  ·cases h
 ·cases h
end
end Pe
namespace Pe
open Go Go.RowKit
variable [Tab]
section
variable {P:Program} {w:World} {g:Gh} {S:Ae}
theorem RG{w:World}{g:Gh}{l b cap sz:Nat}{es:List AV}{us:List Value}(hl:l<g.nid)(hb:g.buf l=true)(hpl:g.pl l=b)(hwm:g.wm l=es.length)(hcp:g.cap l=cap)(hG:es.length*sz≤g.G b)
  (hsz:∀x∈es,x.cells.length=sz)(hcap:es.length≤cap)(hm:cap≤maxLen)(hus:AI w g.noid (Ak es) us.toArray)(hcell:∀j u,us[j]? = some u→w.cell? ⟨b,j,none⟩=some u):
  Rel w g (.sl (.own l) es) (.slice (some ⟨b,0,none⟩) es.length cap):=by
 have hfl:=Ft hsz;have hul:us.length=(Ak es).length:=by simpa using hus.1
 refine .sl _ (.own l) es _ _ sz (fun j=>us.getD j undef) hcap hm hsz (fun _=>⟨b,0,rfl,fun j hj=>?_⟩) (fun j hj=>?_) (fun j u hu=>?_) ⟨hl,hb,by omega,.inr (.inr ⟨by rw[hpl],hcp.symm⟩)⟩
 ·have hj':j<us.length:=by omega
  refine⟨by omega,?_⟩
  rw[Nat.zero_add];refine hcell j _ ?_
  simp[List.getD,List.getElem?_eq_getElem hj']
 ·have hj':j<us.length:=by omega
  refine hus.2.1 _ ?_
  simp only[List.getD,List.getElem?_eq_getElem hj',Option.getD_some]
  exact List.getElem_mem hj'
 ·have hj:=(List.getElem?_eq_some_iff.1 hu).1
  have hj':j<us.length:=by omega
  exact hus.2.2 j u _ hu (by simp[List.getD,List.getElem?_eq_getElem hj'])
theorem WG{w:World}{cur:Array Value}{e:TypeId}{fr:Nat×Nat}{us:List Value}(ht:cur.toList.take us.length=us)(j:Nat)(u:Value)(hu:us[j]? = some u):
  (w.alloc (.cells cur e fr)).cell? ⟨w.heap.size,j,none⟩=some u:=by
 rw[cell_of_row _ _ j cur e fr (heap_alloc_new w _)];rw[←ht,List.getElem?_take]at hu
 split at hu
 ·simpa using hu
 ·cases hu
theorem WF.new_buf(h:WF w g S){es:List AV}{cur:Array Value}{e sz cap:Nat}{fr:Nat×Nat}(hsz0:0<sz)(hsz:∀x∈es,x.cells.length=sz)(hcap:es.length≤cap)(hm:cap≤maxLen)(hcur:cur.size=cap*sz)
  (hfr:fr.2≤fr.1∨cur.size≤fr.1)(us:List Value)(hus:AI w g.noid (Ak es) us.toArray)(htake:cur.toList.take us.length=us):
  ∃g',WF (w.alloc (.cells cur e fr)) g' (S++[.buf es.length e sz])∧Evo w g (w.alloc (.cells cur e fr)) g'∧Rel (w.alloc (.cells cur e fr)) g' (.sl (.own S.length) es) (.slice (some ⟨w.heap.size,0,none⟩) es.length cap):=by
 have hle:=Le.push_new w g (.cells cur e fr) true es.length cap (es.length*sz);obtain⟨h1,h2⟩:=h.alloc_push (.cells cur e fr) true es.length cap (es.length*sz) (o:=.buf es.length e sz) (by
  refine⟨by simp[Gh.push],by simp[Gh.push],.inr ⟨by simp[Gh.push],hsz0,by simpa[Gh.push] using hcap,by simp[Gh.push],cur,fr,?_,hfr,by simpa[Gh.push] using hcur⟩⟩
  simp only[Gh.push,if_true];exact heap_alloc_new w _)
 refine⟨_,h1,h2,?_⟩
 have hn:=h.nid;rw[←hn];exact RG (by simp[Gh.push]) (by simp[Gh.push]) (by simp[Gh.push]) (by simp[Gh.push]) (by simp[Gh.push]) (by simp[Gh.push]) hsz hcap hm (hus.le hle.noid) (fun j u hu=>WG htake j u hu)
theorem WF.regrow(h:WF w g S){l n:Nat}{es:List AV}{cur:Array Value}{e sz cap:Nat}{fr:Nat×Nat}(hS:S[l]? = some (.buf n e sz))(hlt:n<es.length)(hsz0:0<sz)(hsz:∀x∈es,x.cells.length=sz)
  (hcap:es.length≤cap)(hm:cap≤maxLen)(hcur:cur.size=cap*sz)(hfr:fr.2≤fr.1∨cur.size≤fr.1)(us:List Value)(hus:AI w g.noid (Ak es) us.toArray)(htake:cur.toList.take us.length=us):
  ∃g',WF (w.alloc (.cells cur e fr)) g' (S.set l (.buf es.length e sz))∧Evo w g (w.alloc (.cells cur e fr)) g'∧Rel (w.alloc (.cells cur e fr)) g' (.sl (.own l) es) (.slice (some ⟨w.heap.size,0,none⟩) es.length cap):=by
 have hlS:l<S.length:=(List.getElem?_eq_some_iff.1 hS).1
 have hn:=h.nid;obtain⟨hb,hwm,_⟩:=h.obj l _ hS;let g':Gh:={ G:=fun x=>if x=w.heap.size then es.length*sz else g.G x,pl:=fun k=>if k=l then w.heap.size else g.pl k,own:=fun k x=>if k=l then x=w.heap.size else g.own k x,nid:=g.nid,buf:=g.buf,wm:=fun k=>if k=l then es.length else g.wm k,cap:=fun k=>if k=l then cap else g.cap k }
 have hle:Le w g (w.alloc (.cells cur e fr)) g':=by
  refine⟨fun b o' v _ hv=>?_,fun b o' v hb hv=>?_,Nat.le_refl _,fun k hk=>⟨rfl,?_⟩,fun b me c hg hm=>by
   have hlt:=(Array.getElem?_eq_some_iff.1 hm).1
   exact⟨by show 0<(if b=w.heap.size then _ else g.G b);rw[if_neg (show b≠w.heap.size from Nat.ne_of_lt hlt)];exact hg,(heap_alloc_old w _ hlt).trans hm⟩⟩
  ·rw[World.cell?_alloc_lt w _ _ (World.block_lt_of_cell? w _ hv)];exact hv
  ·have :=World.block_lt_of_cell? w _ hv
   show o'<(if b=w.heap.size then _ else g.G b)
   rw[if_neg (show b≠w.heap.size from Nat.ne_of_lt this)];exact hb
  ·by_cases hkl:k=l
   ·subst hkl;exact .inr ⟨hb,by show g.wm k<(if k=k then _ else _);rw[if_pos rfl,hwm];exact hlt⟩
   ·exact .inl ⟨if_neg hkl,if_neg hkl,if_neg hkl⟩
 have hownl:∀b,g'.own l b→g.own l b∨(w.heap.size≤b∧b<(w.alloc (.cells cur e fr)).heap.size):=fun b hb=>by
  have hb':b=w.heap.size:=by simpa[g'] using hb
  exact .inr ⟨by omega,by show b<(w.heap.push _).size;simp;omega⟩
 refine⟨g',h.touch hlS hle rfl (fun k hk _=>⟨if_neg hk,rfl,if_neg hk,if_neg hk,by funext x;exact if_neg hk⟩) hownl (by simp) (fun b hb _=>if_neg (Nat.ne_of_lt hb)) (fun b hb _=>heap_alloc_old w _ hb) ?_,
  ⟨hle,rfl,rfl,rfl,by simp,fun b hb _=>heap_alloc_old w _ hb,fun k b hk hb hlt'=>⟨hk,?_⟩,fun b hb _=>if_neg (Nat.ne_of_lt hb)⟩,?_⟩
 ·refine⟨hb,by simp[g'],.inr ⟨by simp[g'],hsz0,by simpa[g'] using hcap,by simp[g'],cur,fr,?_,hfr,by simpa[g'] using hcur⟩⟩
  simp only[g',if_true];exact heap_alloc_new w _
 ·by_cases hkl:k=l
  ·subst hkl
   have hb':b=w.heap.size:=by simpa[g'] using hb
   omega
  ·simpa[g',hkl] using hb
 ·exact RG (by show l<g.nid;omega) hb (by simp[g']) (by simp[g']) (by simp[g']) (by simp[g']) hsz hcap hm (hus.le hle.noid) (fun j u hu=>WG htake j u hu)
theorem WF.extend(h:WF w g S){l n:Nat}{es ys:List AV}{cur:Array Value}{e sz:Nat}{fr:Nat×Nat}(hS:S[l]? = some (.buf n e sz))(hn:es.length=n)(h0:0<ys.length)(hcap0:g.cap l≠0)
  (hb:w.heap[g.pl l]? = some (.cells cur e fr))(hroom:n+ys.length≤g.cap l)(hm:g.cap l≤maxLen)(hsz:∀x∈es++ys,x.cells.length=sz)(us vs:List Value)(htake:cur.toList.take (n*sz)=us)
  (hus:AI w g.noid (Ak es) us.toArray)(hvs:AI w g.noid (Ak ys) vs.toArray):
  let w':=w.setRow (g.pl l) (cur.toList.take (n*sz)++vs++cur.toList.drop (n*sz+vs.length)).toArray
  ∃g',WF w' g' (S.set l (.buf (n+ys.length) e sz))∧Evo w g w' g'∧Rel w' g' (.sl (.own l) (es++ys)) (.slice (some ⟨g.pl l,0,none⟩) (n+ys.length) (g.cap l)):=by
 intro w';have hlS:l<S.length:=(List.getElem?_eq_some_iff.1 hS).1
 have hnid:=h.nid;obtain⟨hbuf,hwm,hrow⟩:=h.obj l _ hS;rcases hrow with hrow|⟨hown,hsz0,hnc,hG,cur',fr',hb',hfr',hcs'⟩
 ·exact absurd hrow hcap0
 rw[hb]at hb';cases hb'
 have hfes:=Ft (es:=es) (sz:=sz) (fun x hx=>hsz x (by simp[hx]))
 have hfys:=Ft (es:=ys) (sz:=sz) (fun x hx=>hsz x (by simp[hx]))
 have hul:us.length=n*sz:=by have :=hus.1;simp at this;rw[this,hfes,hn]
 have hvl:vs.length=ys.length*sz:=by have :=hvs.1;simp at this;rw[this,hfys]
 have hrl:(n+ys.length)*sz≤g.cap l*sz:=Nat.mul_le_mul_right _ hroom;have hmul:(n+ys.length)*sz=n*sz+ys.length*sz:=Nat.add_mul _ _ _;let g':Gh:={ g with G:=fun x=>if x=g.pl l then(n+ys.length)*sz else g.G x,wm:=fun k=>if k=l then n+ys.length else g.wm k }
 have hnew:w'.heap[g.pl l]? = some (.cells (cur.toList.take (n*sz)++vs++cur.toList.drop (n*sz+vs.length)).toArray e fr):=setRow_heap w (g.pl l) cur _ e fr hb;have hcl:cur.toList.length=g.cap l*sz:=by simpa using hcs'
 have hcell:∀j u,(us++vs)[j]? = some u→w'.cell? ⟨g.pl l,j,none⟩=some u:=by
  intro j u hu;rw[cell_of_row w' _ j _ e fr hnew];rw[htake];simp only[List.getElem?_toArray]
  rw[List.getElem?_append_left (List.getElem?_eq_some_iff.1 hu).1]
  exact hu
 have hold:∀b o v,o<g.G b→w.cell? ⟨b,o,none⟩=some v→w'.cell? ⟨b,o,none⟩=some v:=by
  intro b o v hbo hv;by_cases hbl:b=g.pl l
  ·subst hbl
   refine hcell o v ?_
   have ho:o<n*sz:=by omega
   rw[cell_of_row w _ o cur e fr hb]at hv;rw[List.getElem?_append_left (by omega),←htake,List.getElem?_take_of_lt ho]
   simpa using hv
  ·rw[World.cell?_of_block (w:=w) (w':=w') (setRow_other w _ b _ hbl)];exact hv
 have hle:Le w g w' g':=by
  refine⟨hold,fun b o v hbo _=>?_,Nat.le_refl _,fun k hk=>⟨rfl,?_⟩,fun b me c hg hm=>by
   have hne:b≠g.pl l:=fun e=>by rw[e,hb]at hm;cases hm
   exact⟨by show 0<(if b=g.pl l then _ else g.G b);rw[if_neg hne];exact hg,(setRow_other w _ b _ hne).trans hm⟩⟩
  ·show o<(if b=g.pl l then _ else g.G b)
   split
   ·rename_i e;subst e;omega
   ·exact hbo
  ·by_cases hkl:k=l
   ·subst hkl
    refine .inr ⟨hbuf,?_⟩
    show g.wm k<(if k=k then _ else _)
    rw[if_pos rfl,hwm];omega
   ·exact .inl ⟨rfl,if_neg hkl,rfl⟩
 refine⟨g',h.touch hlS hle rfl (fun k hk _=>⟨rfl,rfl,if_neg hk,rfl,rfl⟩) (fun b hb=>.inl hb) (by simp[w']) (fun b _ hno=>if_neg (fun e=>hno (by rw[e];exact hown))) (fun b _ hno=>setRow_other w _ b _ (fun e=>hno (by rw[e];exact hown))) ?_,
  ⟨hle,rfl,rfl,rfl,by simp[w'],fun b _ hno=>setRow_other w _ b _ (fun e=>hno l (by omega) (by rw[e];exact hown)),fun _ _ hk hb _=>⟨hk,hb⟩,fun b _ hno=>if_neg (fun e=>hno l (by omega) (by rw[e];exact hown))⟩,?_⟩
 ·refine⟨hbuf,by simp[g'],.inr ⟨hown,hsz0,hroom,by simp[g'],_,fr,hnew,?_,?_⟩⟩
  ·rcases hfr' with hf|hf
   ·exact .inl hf
   ·refine .inr ?_
    simp only[List.size_toArray,List.length_append,List.length_take,List.length_drop];omega
  ·show _=g.cap l*sz
   simp only[List.size_toArray,List.length_append,List.length_take,List.length_drop];omega
 ·have :=RG (w:=w') (g:=g') (l:=l) (b:=g.pl l) (cap:=g.cap l) (sz:=sz) (es:=es++ys) (us:=us++vs) (by show l<g.nid;omega) hbuf rfl (by simp[g',hn]) rfl (by simp[g',hn]) hsz (by simp;omega) hm (by
   rw[J9];have h1:=hus.le hle.noid;have h2:=hvs.le hle.noid;refine⟨?_,fun v hv=>?_,fun j u v hu hv=>?_⟩
   ·have :=h1.1;have :=h2.1;simp at *;omega
   ·simp only[List.mem_append]at hv
    rcases hv with hv|hv
    ·exact h1.2.1 v hv
    ·exact h2.2.1 v hv
   ·have hl1:(Ak es).length=us.length:=by have :=h1.1;simpa using this.symm
    simp only[List.getElem?_toArray]at hv
    rw[List.getElem?_append]at hu hv
    rw[hl1]at hu;split at hu
    ·rename_i hc;rw[if_pos hc]at hv;exact h1.2.2 j u v hu (by simpa using hv)
    ·rename_i hc;rw[if_neg hc]at hv;exact h2.2.2 _ u v hu (by simpa using hv)) hcell
  rw[List.length_append,hn]at this;exact this
theorem WF.reserve(h:WF w g S)(n:Nat)(e:TypeId)(sz:Nat):∃g',WF w g' (S++[.buf n e sz])∧Evo w g w g'∧g'.nid=g.nid+1∧g'.buf g.nid=true∧g'.wm g.nid=n:=by
 let g':Gh:={ g with pl:=fun k=>if k=g.nid then 0 else g.pl k,own:=fun k x=>if k=g.nid then False else g.own k x,nid:=g.nid+1,buf:=fun k=>if k=g.nid then true else g.buf k,wm:=fun k=>if k=g.nid then n else g.wm k,cap:=fun k=>if k=g.nid then 0 else g.cap k }
 have hn:=h.nid;have hle:Le w g w g':=⟨fun _ _ _ _ h=>h,fun _ _ _ h _=>h,by simp[g'],fun k hk=>by
  have hne:k≠g.nid:=Nat.ne_of_lt hk;exact⟨if_neg hne,.inl ⟨if_neg hne,if_neg hne,if_neg hne⟩⟩,fun _ _ _ h h'=>⟨h,h'⟩⟩
 have hown:∀k b,k<g'.nid→g'.own k b→k<g.nid∧g.own k b:=fun k b hk hb=>by
  have hb':if k=g.nid then False else g.own k b:=hb
  split at hb'
  ·exact hb'.elim
  ·have hk':k<g.nid+1:=hk
   exact⟨by omega,hb'⟩
 refine⟨g',⟨by simp[g',hn],fun k o hk=>?_,fun k k' b hk hk' hb hb'=>?_,fun k b hk hb=>?_,h.tab.le hle⟩,⟨hle,rfl,rfl,rfl,Nat.le_refl _,fun _ _ _=>rfl,fun k b hk hb _=>hown k b hk hb,fun _ _ _=>rfl⟩,rfl,by simp[g'],by simp[g']⟩
 ·by_cases hkl:k<S.length
  ·rw[List.getElem?_append_left hkl]at hk
   have hne:k≠g.nid:=by omega
   exact(h.obj k o hk).keep hle (if_neg hne) (if_neg hne) (if_neg hne) (if_neg hne) (by funext x;exact if_neg hne) (fun _ _=>rfl) (fun _ _=>rfl)
  ·rw[List.getElem?_append_right (by omega)]at hk
   have hk0:k-S.length=0:=by
    have :=(List.getElem?_eq_some_iff.1 hk).1
    simp at this;omega
   rw[hk0]at hk;cases hk
   have:k=g.nid:=by omega
   subst this;exact⟨by simp[g'],by simp[g'],.inl (by simp[g'])⟩
 ·have h1:=hown k b hk hb
  have h2:=hown k' b hk' hb';exact h.disj k k' b h1.1 h2.1 h1.2 h2.2
 ·have h1:=hown k b hk hb
  exact h.lt k b h1.1 h1.2
theorem ZC{w:World}{g:Gh}{us us':List AV}{vs vs':List Value}(h:AI w g us vs.toArray)(h':AI w g us' vs'.toArray):AI w g (us++us') (vs++vs').toArray:=by
 have hl:vs.length=us.length:=by simpa using h.1
 refine⟨by have :=h.1;have :=h'.1;simp at *;omega,fun v hv=>?_,fun j u v hu hv=>?_⟩
 ·simp only[List.mem_append]at hv
  rcases hv with hv|hv
  ·exact h.2.1 v hv
  ·exact h'.2.1 v hv
 ·simp only[List.getElem?_toArray]at hv
  rw[List.getElem?_append]at hu hv
  rw[hl]at hv;split at hu
  ·rename_i hc;rw[if_pos hc]at hv;exact h.2.2 j u v hu (by simpa using hv)
  ·rename_i hc;rw[if_neg hc]at hv;exact h'.2.2 _ u v hu (by simpa using hv)
theorem AI.ofNoid{w:World}{g:Gh}{us:List AV}{vs:Array Value}(h:AI w g.noid us vs):AI w g us vs:=⟨h.1,h.2.1,fun j u v hu hv=>(h.2.2 j u v hu hv).ofNoid⟩
theorem UG{w:World}{g:Gh}{cs:List AV}{us:List Value}{cur:Array Value}(h:AI w g cs us.toArray)(ht:cur.toList.take us.length=us):
  (∀(j:Nat) v,cur[j]? = some v→j<cs.length→v.oneCell'=true) ∧ ∀(j:Nat) u v,cs[j]? = some u→cur[j]? = some v→Rel w g u v:=by
 have hl:us.length=cs.length:=by simpa using h.1
 have hat:∀(j:Nat) v,cur[j]? = some v→j<cs.length→us[j]? = some v:=fun j v hv hj=>by
  rw[←ht,List.getElem?_take_of_lt (by omega)]
  simpa using hv
 exact⟨fun j v hv hj=>h.2.1 v (List.mem_iff_getElem?.2 ⟨j,hat j v hv hj⟩),fun j u v hu hv=>h.2.2 j u v hu (by simpa using hat j v hv (List.getElem?_eq_some_iff.1 hu).1)⟩
theorem WF.new_row(h:WF w g S){cs:List AV}{n:Nat}{cur:Array Value}{e sz cap:Nat}{fr:Nat×Nat}(hsz0:0<sz)(hn:cs.length=n*sz)(hcap:n≤cap)(hm:cap≤maxLen)(hcur:cur.size=cap*sz)
  (hfr:fr.2≤fr.1)(us:List Value)(hus:AI w g cs us.toArray)(htake:cur.toList.take us.length=us):
  ∃g',WF (w.alloc (.cells cur e fr)) g' (S++[.row cs e sz])∧Evo w g (w.alloc (.cells cur e fr)) g'∧Rel (w.alloc (.cells cur e fr)) g' (.wr S.length n none) (.slice (some ⟨w.heap.size,0,none⟩) n cap):=by
 have hle:=Le.push_new w g (.cells cur e fr) true n cap 0;obtain⟨t1,t2⟩:=UG hus htake;have hul:us.length=cs.length:=by simpa using hus.1
 have hcl:cs.length≤cur.size:=by
  have :=congrArg List.length htake;simp at this;omega
 obtain⟨h1,h2⟩:=h.alloc_push (.cells cur e fr) true n cap 0 (o:=.row cs e sz) (by
  refine⟨by simp[Gh.push],⟨hsz0,by simpa[Gh.push] using hn⟩,.inr ⟨by simp[Gh.push],by simp[Gh.push],cur,fr,?_,hfr,by simpa[Gh.push] using hcur,hcl,t1,fun j u v hu hv=>(t2 j u v hu hv).le hle⟩⟩
  simp only[Gh.push,if_true];exact heap_alloc_new w _)
 refine⟨_,h1,h2,?_⟩
 have hn:=h.nid;rw[←hn];exact .wr _ _ n cap _ (by simp[Gh.push]) (by simp[Gh.push]) (by simp[Gh.push]) hcap hm (fun _=>⟨_,_,rfl⟩) (.inr ⟨by simp[Gh.push],fun _=>by simp[Gh.push]⟩)
theorem WF.reserve_row(h:WF w g S)(e:TypeId){sz:Nat}(hsz0:0<sz):∃g',WF w g' (S++[.row [] e sz])∧Evo w g w g' ∧ ∀A,Rel w g' (.wr S.length 0 none) (.slice A 0 0):=by
 let g':Gh:={ g with pl:=fun k=>if k=g.nid then 0 else g.pl k,own:=fun k x=>if k=g.nid then False else g.own k x,nid:=g.nid+1,buf:=fun k=>if k=g.nid then true else g.buf k,wm:=fun k=>if k=g.nid then 0 else g.wm k,cap:=fun k=>if k=g.nid then 0 else g.cap k }
 have hn:=h.nid;have hle:Le w g w g':=⟨fun _ _ _ _ h=>h,fun _ _ _ h _=>h,by simp[g'],fun k hk=>by
  have hne:k≠g.nid:=Nat.ne_of_lt hk;exact⟨if_neg hne,.inl ⟨if_neg hne,if_neg hne,if_neg hne⟩⟩,fun _ _ _ h h'=>⟨h,h'⟩⟩
 have hown:∀k b,k<g'.nid→g'.own k b→k<g.nid∧g.own k b:=fun k b hk hb=>by
  have hb':if k=g.nid then False else g.own k b:=hb
  split at hb'
  ·exact hb'.elim
  ·have hk':k<g.nid+1:=hk
   exact⟨by omega,hb'⟩
 refine⟨g',⟨by simp[g',hn],fun k o hk=>?_,fun k k' b hk hk' hb hb'=>?_,fun k b hk hb=>?_,h.tab.le hle⟩,⟨hle,rfl,rfl,rfl,Nat.le_refl _,fun _ _ _=>rfl,fun k b hk hb _=>hown k b hk hb,fun _ _ _=>rfl⟩,fun A=>?_⟩
 ·by_cases hkl:k<S.length
  ·rw[List.getElem?_append_left hkl]at hk
   have hne:k≠g.nid:=by omega
   exact(h.obj k o hk).keep hle (if_neg hne) (if_neg hne) (if_neg hne) (if_neg hne) (by funext x;exact if_neg hne) (fun _ _=>rfl) (fun _ _=>rfl)
  ·rw[List.getElem?_append_right (by omega)]at hk
   have hk0:k-S.length=0:=by
    have :=(List.getElem?_eq_some_iff.1 hk).1
    simp at this;omega
   rw[hk0]at hk;cases hk
   have:k=g.nid:=by omega
   subst this;exact⟨by simp[g'],⟨hsz0,by simp[g']⟩,.inl ⟨by simp[g'],rfl⟩⟩
 ·have h1:=hown k b hk hb
  have h2:=hown k' b hk' hb';exact h.disj k k' b h1.1 h2.1 h1.2 h2.2
 ·have h1:=hown k b hk hb
  exact h.lt k b h1.1 h1.2
 ·rw[←hn]
  exact .wr _ _ 0 0 A (by simp[g']) (by simp[g']) (by simp[g']) (Nat.le_refl _) (Nat.zero_le _) (fun h=>absurd h (Nat.lt_irrefl 0)) (.inr ⟨by simp[g'],fun h=>absurd h (Nat.lt_irrefl 0)⟩)
theorem WF.regrow_row(h:WF w g S){l n:Nat}{cs cs':List AV}{cur:Array Value}{e sz cap:Nat}{fr:Nat×Nat}(hS:S[l]? = some (.row cs e sz))(hlt:g.wm l<n)(hn:cs'.length=n*sz)
  (hcap:n≤cap)(hm:cap≤maxLen)(hcur:cur.size=cap*sz)(hfr:fr.2≤fr.1)(us:List Value)(hus:AI w g cs' us.toArray)(htake:cur.toList.take us.length=us):
  ∃g',WF (w.alloc (.cells cur e fr)) g' (S.set l (.row cs' e sz))∧Evo w g (w.alloc (.cells cur e fr)) g'∧Rel (w.alloc (.cells cur e fr)) g' (.wr l n none) (.slice (some ⟨w.heap.size,0,none⟩) n cap):=by
 have hlS:l<S.length:=(List.getElem?_eq_some_iff.1 hS).1
 have hnid:=h.nid;obtain⟨hb,⟨hsz0,_⟩,_⟩:=h.obj l _ hS;obtain⟨t1,t2⟩:=UG hus htake;have hul:us.length=cs'.length:=by simpa using hus.1
 have hcl:cs'.length≤cur.size:=by
  have :=congrArg List.length htake;simp at this;omega
 let g':Gh:={ G:=fun x=>if x=w.heap.size then 0 else g.G x,pl:=fun k=>if k=l then w.heap.size else g.pl k,own:=fun k x=>if k=l then x=w.heap.size else g.own k x,nid:=g.nid,buf:=g.buf,wm:=fun k=>if k=l then n else g.wm k,cap:=fun k=>if k=l then cap else g.cap k }
 have hle:Le w g (w.alloc (.cells cur e fr)) g':=by
  refine⟨fun b o' v _ hv=>?_,fun b o' v hb hv=>?_,Nat.le_refl _,fun k hk=>⟨rfl,?_⟩,fun b me c hg hm=>by
   have hlt:=(Array.getElem?_eq_some_iff.1 hm).1
   exact⟨by show 0<(if b=w.heap.size then _ else g.G b);rw[if_neg (show b≠w.heap.size from Nat.ne_of_lt hlt)];exact hg,(heap_alloc_old w _ hlt).trans hm⟩⟩
  ·have :=World.block_lt_of_cell? w _ hv
   rw[World.cell?_alloc_lt w _ _ this];exact hv
  ·have :=World.block_lt_of_cell? w _ hv
   show o'<(if b=w.heap.size then _ else g.G b)
   rw[if_neg (show b≠w.heap.size from Nat.ne_of_lt this)];exact hb
  ·by_cases hkl:k=l
   ·subst hkl;exact .inr ⟨hb,by show g.wm k<(if k=k then _ else _);rw[if_pos rfl];exact hlt⟩
   ·exact .inl ⟨if_neg hkl,if_neg hkl,if_neg hkl⟩
 have hownl:∀b,g'.own l b→g.own l b∨(w.heap.size≤b∧b<(w.alloc (.cells cur e fr)).heap.size):=fun b hb=>by
  have hb':b=w.heap.size:=by simpa[g'] using hb
  exact .inr ⟨by omega,by show b<(w.heap.push _).size;simp;omega⟩
 refine⟨g',h.touch hlS hle rfl (fun k hk _=>⟨if_neg hk,rfl,if_neg hk,if_neg hk,by funext x;exact if_neg hk⟩) hownl (by simp) (fun b hb _=>if_neg (Nat.ne_of_lt hb)) (fun b hb _=>heap_alloc_old w _ hb) ?_,
  ⟨hle,rfl,rfl,rfl,by simp,fun b hb _=>heap_alloc_old w _ hb,fun k b hk hb hlt'=>⟨hk,?_⟩,fun b hb _=>if_neg (Nat.ne_of_lt hb)⟩,?_⟩
 ·refine⟨hb,⟨hsz0,by simpa[g'] using hn⟩,.inr ⟨by simp[g'],by simp[g'],cur,fr,?_,hfr,by simpa[g'] using hcur,hcl,t1,fun j u v hu hv=>(t2 j u v hu hv).le hle⟩⟩
  simp only[g',if_true];exact heap_alloc_new w _
 ·by_cases hkl:k=l
  ·subst hkl
   have hb':b=w.heap.size:=by simpa[g'] using hb
   omega
  ·simpa[g',hkl] using hb
 ·exact .wr _ _ n cap _ (by show l<g.nid;omega) hb (by simp[g']) hcap hm (fun _=>⟨_,_,rfl⟩) (.inr ⟨by simp[g'],fun _=>by simp[g']⟩)
theorem WF.extend_row(h:WF w g S){l n m:Nat}{cs ds:List AV}{cur:Array Value}{e sz:Nat}{fr:Nat×Nat}(hS:S[l]? = some (.row cs e sz))(hn:n=g.wm l)(h0:0<m)(hcap0:g.cap l≠0)
  (hb:w.heap[g.pl l]? = some (.cells cur e fr))(hroom:n+m≤g.cap l)(hm:g.cap l≤maxLen)(hds:ds.length=m*sz)(vs:List Value)(hvs:AI w g ds vs.toArray):
  let w':=w.setRow (g.pl l) (cur.toList.take (n*sz)++vs++cur.toList.drop (n*sz+vs.length)).toArray
  ∃g',WF w' g' (S.set l (.row (cs++ds) e sz))∧Evo w g w' g'∧Rel w' g' (.wr l (n+m) none) (.slice (some ⟨g.pl l,0,none⟩) (n+m) (g.cap l)):=by
 intro w';have hlS:l<S.length:=(List.getElem?_eq_some_iff.1 hS).1
 have hnid:=h.nid;obtain⟨hbuf,⟨hsz0,hwm⟩,hrow⟩:=h.obj l _ hS;rcases hrow with⟨hrow,_⟩|⟨hown,hG,cur',fr',hb',hfr',hcs',hcl,h9,h10⟩
 ·exact absurd hrow hcap0
 rw[hb]at hb';cases hb'
 have hvl:vs.length=m*sz:=by have :=hvs.1;simp at this;rw[this,hds]
 have hrl:(n+m)*sz≤g.cap l*sz:=Nat.mul_le_mul_right _ hroom;have hmul:(n+m)*sz=n*sz+m*sz:=Nat.add_mul _ _ _;have hcsl:cs.length=n*sz:=by rw[hwm,hn]
 let g':Gh:={ g with wm:=fun k=>if k=l then n+m else g.wm k }
 have hnew:w'.heap[g.pl l]? = some (.cells (cur.toList.take (n*sz)++vs++cur.toList.drop (n*sz+vs.length)).toArray e fr):=setRow_heap w (g.pl l) cur _ e fr hb;have hcl':cur.toList.length=g.cap l*sz:=by simpa using hcs'
 have hle0:=Le.setRow (w:=w) hG (cur.toList.take (n*sz)++vs++cur.toList.drop (n*sz+vs.length)).toArray;have hle1:Le w' g w' g':=⟨fun _ _ _ _ h=>h,fun _ _ _ h _=>h,Nat.le_refl _,fun k hk=>⟨rfl,by
  by_cases hkl:k=l
  ·subst hkl
   refine .inr ⟨hbuf,?_⟩
   show g.wm k<(if k=k then _ else _)
   rw[if_pos rfl];omega
  ·exact .inl ⟨rfl,if_neg hkl,rfl⟩⟩,fun _ _ _ h h'=>⟨h,h'⟩⟩
 have hle:Le w g w' g':=hle0.trans hle1;have hat:∀(j:Nat) v,(cur.toList.take (n*sz)++vs++cur.toList.drop (n*sz+vs.length)).toArray[j]? = some v→j<(cs++ds).length→(j<cs.length∧cur[j]? = some v)∨(cs.length≤j∧vs[j-cs.length]? = some v):=by
  intro j v hv hj;rw[List.length_append]at hj;simp only[List.getElem?_toArray]at hv
  rw[List.append_assoc]at hv;have hlt:(cur.toList.take (n*sz)).length=n*sz:=by rw[List.length_take];omega
  by_cases h1:j<n*sz
  ·rw[List.getElem?_append_left (by omega),List.getElem?_take_of_lt h1]at hv
   exact .inl ⟨by omega,by simpa using hv⟩
  ·rw[List.getElem?_append_right (by omega),hlt,List.getElem?_append_left (by omega)]at hv
   exact .inr ⟨by omega,by rw[hcsl];exact hv⟩
 refine⟨g',h.touch hlS hle rfl (fun k hk _=>⟨rfl,rfl,if_neg hk,rfl,rfl⟩) (fun b hb=>.inl hb) (by simp[w']) (fun b _ _=>rfl) (fun b _ hno=>setRow_other w _ b _ (fun e=>hno (by rw[e];exact hown))) ?_,
  ⟨hle,rfl,rfl,rfl,by simp[w'],fun b _ hno=>setRow_other w _ b _ (fun e=>hno l (by omega) (by rw[e];exact hown)),fun _ _ hk hb _=>⟨hk,hb⟩,fun b _ _=>rfl⟩,?_⟩
 ·refine⟨hbuf,⟨hsz0,?_⟩,.inr ⟨hown,hG,_,fr,hnew,hfr',?_,?_,fun j v hv hj=>?_,fun j u v hu hv=>?_⟩⟩
  ·rw[List.length_append]
   show _=(if l=l then n+m else g.wm l)*sz
   rw[if_pos rfl];omega
  ·show _=g.cap l*sz
   simp only[List.size_toArray,List.length_append,List.length_take,List.length_drop];omega
  ·simp only[List.size_toArray,List.length_append,List.length_take,List.length_drop]
   omega
  ·rcases hat j v hv hj with⟨h1,h2⟩|⟨h1,h2⟩
   ·exact h9 j v h2 h1
   ·exact hvs.2.1 v (List.mem_iff_getElem?.2 ⟨_,h2⟩)
  ·rcases hat j v hv (List.getElem?_eq_some_iff.1 hu).1 with⟨h1,h2⟩|⟨h1,h2⟩
   ·rw[List.getElem?_append_left h1]at hu
    exact(h10 j u v hu h2).le hle
   ·rw[List.getElem?_append_right h1]at hu
    exact(hvs.2.2 _ u v hu (by simpa using h2)).le hle
 ·exact .wr _ _ (n+m) _ _ (by show l<g.nid;omega) hbuf (by simp[g']) hroom hm (fun _=>⟨_,_,rfl⟩) (.inr ⟨rfl,fun _=>rfl⟩)
end
end Pe
namespace Pe
open Go Go.RowKit
variable [Tab]
def Ct(n by_:Nat):Bool:=decide (n*by_≤140737488355328)&&decide (n≤140737488355328)
def GB(P:Program)(t u:TypeId)(S:Ae)(x y:AV):Option (AV×Ae):=
 match Cz P t,Fg P u y,x with
 |some (e,sz,by_),some ys,.sl (.own l) es=>match S[l]? with
  | some (.buf n e' sz')=>if n=es.length∧e'=e∧sz'=sz∧AH sz es=true∧AH sz ys=true∧Ct (es.length+ys.length) by_=true then
    some (.sl (.own l) (es++ys),S.set l (.buf (es.length+ys.length) e sz))else none
  |_=>none
 | some (e,sz,by_),some ys,.sl .full es=>if AH sz es=true∧AH sz ys=true∧Ct (es.length+ys.length) by_=true then
   some (.sl (.own S.length) (es++ys),S++[.buf (es.length+ys.length) e sz])else none
 |some (e,sz,by_),some ys,.wr l n none=>match S[l]? with
  | some (.row cs e' sz')=>if cs.length=n*sz∧e'=e∧sz'=sz∧AH sz ys=true∧Ct (n+ys.length) by_=true then
    some (.wr l (n+ys.length) none,S.set l (.row (cs++Ak ys) e sz))else none
  |_=>none
 |_,_,_=>none
def Ky(P:Program)(t u:TypeId)(S:Ae)(x y:AV):Option (AV×SObj):=
 match Cz P t,Fg P u y,x with
 | some (e,sz,by_),some ys,.sl .full es=>if AH sz es=true∧AH sz ys=true∧Ct (es.length+ys.length) by_=true∧es=[]then
   some (.wr S.length ys.length none,.row (Ak ys) e sz)else none
 |_,_,_=>none
section
variable {P:Program} {w:World} {g:Gh} {S:Ae}
theorem Je{n b:Nat}(h:Ct n b=true):n*b≤140737488355328∧n≤140737488355328:=by simpa[Ct] using h
theorem U2{m:Mode}{es:List AV}{A:Option Addr}{c sz:Nat}(h:Rel w g (.sl m es) (.slice A es.length c))(hsz:∀e∈es,e.cells.length=sz):
  ∃us:List Value,us.length=es.length*sz∧AI w g.noid (Ak es) us.toArray∧(∀w':World,(∀p,w'.cell? p=w.cell? p)→(Builtin.firstCells sz es.length (.slice A es.length c)).run P w'=.ok us.toArray w') ∧
   ∀b,A=some ⟨b,0,none⟩ → ∀(j:Nat) u,us[j]? = some u→w.cell? ⟨b,j,none⟩=some u:=by
 cases h with
 | sl _ _ _ _ _ sz0 cu hc hcm hsz0 hA h1 hr hm=>
  have hfl:=Ft hsz;refine⟨(List.range (Ak es).length).map cu,by simp[hfl],⟨by simp,fun v hv=>?_,fun j u v hu hv=>?_⟩,fun w' hw'=>?_,fun b hb j u hu=>?_⟩
  ·simp only[List.mem_map,List.mem_range]at hv
   obtain⟨j,hj,rfl⟩:=hv;exact h1 j hj
  ·have hj:=(List.getElem?_eq_some_iff.1 hu).1
   simp[List.getElem?_range hj]at hv
   rw[←hv];exact hr j u hu
  ·rcases Nat.eq_zero_or_pos es.length with h0|h0
   ·have:es=[]:=List.eq_nil_of_length_eq_zero h0
    subst this;cases A with
    |none=>simp[Builtin.firstCells,Ak]
    |some a=>simp[Builtin.firstCells,Ak,loadCells,loadCellsFrom]
   ·obtain⟨b,o,rfl,hcell⟩:=hA h0
    exact run_firstCells_some (P:=P) w' sz es.length ⟨b,o,none⟩ es.length c ((List.range (Ak es).length).map cu) (by simp[hfl]) (fun j v hv=>by
     rw[List.getElem?_map]at hv
     obtain⟨k,hk,rfl⟩:=Option.map_eq_some_iff.1 hv;obtain⟨hlt,he⟩:=List.getElem?_eq_some_iff.1 hk
     simp at he hlt
     subst he;rw[Addr.add_lit,hw',(hcell j hlt).2])
  ·rw[List.getElem?_map]at hu
   obtain⟨k,hk,rfl⟩:=Option.map_eq_some_iff.1 hu;obtain⟨hlt,he⟩:=List.getElem?_eq_some_iff.1 hk
   simp at he hlt
   subst he;have h0:0<es.length:=by
    rcases Nat.eq_zero_or_pos es.length with h0|h0
    ·rw[hfl,h0]at hlt;omega
    ·exact h0
   obtain⟨b',o,hb',hcell⟩:=hA h0;rw[hb]at hb';cases hb'
   have :=(hcell j hlt).2;rw[Nat.zero_add]at this;exact this
theorem KF(z:Array Value)(n sz:Nat)(h:z.size=sz):(Builtin.zeroCells z n).size=n*sz:=by rw[size_zeroCells,h]
theorem QS{S:Ae}{l:Nat}{o:SObj}(h:S[l]? = some o):S.set l o=S:=by
 refine List.ext_getElem? fun k=>?_
 by_cases hk:k=l
 ·subst hk
  rw[List.getElem?_set_self (List.getElem?_eq_some_iff.1 h).1,h]
 ·rw[List.getElem?_set_ne (fun e=>hk e.symm)]
theorem Zk0{t u ty:TypeId}{e sz by_ l n:Nat}{ys cs:List AV}{y:AV}{cx cy:Value}(ht:Cz P t=some (e,sz,by_))(hs:Fg P u y=some ys)(hS:S[l]? = some (.row cs e sz))(hn:cs.length=n*sz)(hall':AH sz ys=true)(hfit:Ct (n+ys.length) by_=true)
  (hw:WF w g S)(hx:Rel w g (.wr l n none) cx)(hy:Rel w g y cy):
  ∃cv w' g',(Builtin.append_ #[t,u] ty #[cx,cy]).run P w=.ok cv w'∧WF w' g' (S.set l (.row (cs++Ak ys) e sz))∧Rel w' g' (.wr l (n+ys.length) none) cv∧Evo w g w' g':=by
 obtain⟨hut,hsz0,i,z,hi,hz,rfl,rfl,hzs⟩:=Ir ht;obtain⟨hf1,hf2⟩:=Je hfit;have hsz2:=Em hall';obtain⟨vs,hsrc,hvs⟩:=LA hs hy hall';have hvs:=hvs.ofNoid;have hfy:=Ft hsz2;have hx':=hx;obtain⟨hbuf,⟨_,hwm⟩,hrow⟩:=hw.obj l _ hS;have hnw:n=g.wm l:=Nat.eq_of_mul_eq_mul_right hsz0 (by omega)
 cases hx with
 | wr _ _ _ c A hl hb hwn hc hcm h0 hA=>
  obtain⟨rfl,hA⟩:c=g.cap l∧(0<c→A=some ⟨g.pl l,0,none⟩):=by
   rcases hA with hA|hA
   ·omega
   ·exact hA
  rcases Nat.eq_zero_or_pos ys.length with h00|h00
  ·have hy0:ys=[]:=List.eq_nil_of_length_eq_zero h00
   subst hy0;have hv0:vs=[]:=by
    have :=hsrc.size;simp at this
    exact this
   subst hv0;refine⟨_,w,g,NR hut hi hsrc hc,?_,by simpa using hx',Evo.refl w g⟩
   have:cs++Ak []=cs:=by simp[Ak]
   rw[this,QS hS];exact hw
  ·by_cases hroom:n+ys.length≤g.cap l
   ·have hA:=hA (by omega)
    subst hA;rcases hrow with⟨hrow,_⟩|⟨hown,hG,cur,fr,hb',hfr,hcs,hcl,h9,h10⟩
    ·omega
    ·have hle:(n+ys.length)*i.size≤g.cap l*i.size:=Nat.mul_le_mul_right _ hroom
     rw[Nat.add_mul]at hle;obtain⟨g',h5,h6,h7⟩:=hw.extend_row (ds:=Ak ys) hS hnw h00 (by omega) hb' hroom hcm hfy vs hvs
     refine⟨_,_,g',P0 hut hi hsrc hb' (.inl hfr) hroom ?_,h5,h7,h6⟩
     rw[hsrc.size];omega
   ·obtain⟨olds,ho1,ho2,ho3⟩:∃olds:List Value,(∀w':World,(∀p,w'.cell? p=w.cell? p)→(Builtin.firstCells i.size n (.slice A n (g.cap l))).run P w'=.ok olds.toArray w')∧AI w g cs olds.toArray∧olds.length=n*i.size:=by
     rcases Nat.eq_zero_or_pos n with hn0|hn0
     ·subst hn0
      refine⟨[],fun w' _=>?_,?_,by simp⟩
      ·cases A with
       |none=>simp[Builtin.firstCells]
       |some a=>simp[Builtin.firstCells,loadCells,loadCellsFrom]
      ·have:cs=[]:=List.eq_nil_of_length_eq_zero (by omega)
       subst this;exact⟨rfl,by simp,by simp⟩
     ·have hA:=hA (by omega)
      subst hA;rcases hrow with⟨hrow,_⟩|⟨hown,hG,cur,fr,hb',hfr,hcs,hcl,h9,h10⟩
      ·omega
      ·have hlen:(cur.toList.take (n*i.size)).length=n*i.size:=by rw[List.length_take];simp;omega
       have hget:∀(j:Nat) v,(cur.toList.take (n*i.size))[j]? = some v→j<cs.length∧cur[j]? = some v:=fun j v hv=>by
        have hj:=(List.getElem?_eq_some_iff.1 hv).1
        rw[List.getElem?_take_of_lt (by omega)]at hv
        exact⟨by omega,by simpa using hv⟩
       refine⟨cur.toList.take (n*i.size),fun w' hw'=>?_,⟨by simpa[hn] using hlen,fun v hv=>?_,fun j u v hu hv=>?_⟩,hlen⟩
       ·exact run_firstCells_some (P:=P) w' i.size n ⟨g.pl l,0,none⟩ n (g.cap l) (cur.toList.take (n*i.size)) hlen (fun j v hv=>by
         rw[Addr.add_lit,hw',Nat.zero_add,cell_of_row w _ j cur e fr hb'];exact(hget j v hv).2)
       ·obtain⟨j,hj⟩:=List.mem_iff_getElem?.1 hv
        have :=hget j v (by simpa using hj)
        exact h9 j v this.2 this.1
       ·exact h10 j u v hu (hget j v (by simpa using hv)).2
    have hrun:=Mo (ty:=ty) hut hi hz hsrc (ho1 w.drew (fun _=>rfl)) (by omega) (by omega) (growslice_fits (by omega) hf1)
    have hge:=grownCap_ge w (n+ys.length) (g.cap l) e;have hcm':grownCap w (n+ys.length) (g.cap l) e≤maxLen:=grownCap_le_maxLen w _ (g.cap l) e (by simp only[maxLen];omega)
    have hvl:=hsrc.size;obtain⟨g',h5,h6,h7⟩:=(hw.draw (w.drawn+1)).regrow_row (n:=n+ys.length) (cs':=cs++Ak ys) (cur:=olds.toArray++vs.toArray++Builtin.zeroCells z.cells (grownCap w (n+ys.length) (g.cap l) e-(n+ys.length))) (cap:=grownCap w (n+ys.length) (g.cap l) e) (fr:=(0,0)) hS (by omega) (by rw[List.length_append,hn,hfy,Nat.add_mul]) hge hcm' (by
      simp only[Array.size_append,List.size_toArray,KF _ _ _ hzs,ho3,hvl,←Nat.add_mul];congr 1
      omega) (by simp) (olds++vs) ((ZC ho2 hvs).le (Evo.draw w g _).toLe) (by
      simp only[Array.toList_append,List.append_assoc];rw[←List.append_assoc,List.take_left])
    exact⟨_,_,g',hrun,h5,h7,(Evo.draw w g _).trans h6⟩
theorem Zk2{t u ty:TypeId}{x y v:AV}{z:SObj}{cx cy:Value}(h:Ky P t u S x y=some (v,z))(hw:WF w g S)(hx:Rel w g x cx)(hy:Rel w g y cy):
  ∃cv w' g',(Builtin.append_ #[t,u] ty #[cx,cy]).run P w=.ok cv w'∧WF w' g' (S++[z])∧Rel w' g' v cv∧Evo w g w' g':=by
 unfold Ky at h;split at h
 ·rename_i e sz by_ ys es ht hs
  obtain⟨hut,hsz0,i,z,hi,hz,rfl,rfl,hzs⟩:=Ir ht;split at h
  ·rename_i hcond
   obtain⟨hall,hall',hfit,rfl⟩:=hcond;cases h
   obtain⟨hf1,hf2⟩:=Je hfit;have hsz2:=Em hall';obtain⟨vs,hsrc,hvs⟩:=LA hs hy hall';have hvs:=hvs.ofNoid;have hfy:=Ft hsz2;cases hx with
   | sl _ _ _ A c sz0 cu hc hcm hsz hA h1 hr hm=>
    have hcn:c=0:=hm;subst hcn;rcases Nat.eq_zero_or_pos ys.length with h0|h0
    ·have hy0:ys=[]:=List.eq_nil_of_length_eq_zero h0
     subst hy0;have hv0:vs=[]:=by
      have :=hsrc.size;simp at this
      exact this
     subst hv0;obtain⟨g',h5,h6,h7⟩:=hw.reserve_row e hsz0;exact⟨_,w,g',NR hut hi hsrc (Nat.le_refl _),h5,h7 _,h6⟩
    ·simp only[List.length_nil,Nat.zero_add]at hf1 hf2
     have hrun:=Mo (ty:=ty) hut hi hz hsrc (base:=A) (n:=0) (c:=0) (olds:=[]) (by
      cases A with
      |none=>simp[Builtin.firstCells]
      |some a=>simp[Builtin.firstCells,loadCells,loadCellsFrom]) (by omega) (by omega) (growslice_fits (by omega) (by rw[Nat.zero_add];exact hf1))
     rw[Nat.zero_add]at hrun;have hge:=grownCap_ge w ys.length 0 e;have hcm':grownCap w ys.length 0 e≤maxLen:=grownCap_le_maxLen w _ 0 e (by simp only[maxLen];omega)
     have hvl:=hsrc.size;obtain⟨g',h5,h6,h7⟩:=(hw.draw (w.drawn+1)).new_row (n:=ys.length) (cs:=Ak ys) (cur:=([]:List Value).toArray++vs.toArray++Builtin.zeroCells z.cells (grownCap w ys.length 0 e-ys.length)) (e:=e) (cap:=grownCap w ys.length 0 e) (fr:=(0,0)) hsz0 hfy hge hcm' (by
       simp only[Array.size_append,List.size_toArray,List.length_nil,KF _ _ _ hzs,hvl,Nat.zero_add,←Nat.add_mul];congr 1
       omega) (by simp) vs (hvs.le (Evo.draw w g _).toLe) (by
       simp only[Array.toList_append,List.append_assoc,List.nil_append];rw[List.take_left])
     exact⟨_,_,g',hrun,h5,h7,(Evo.draw w g _).trans h6⟩
  ·cases h
 ·cases h
theorem Zk1{t u ty:TypeId}{x y v:AV}{S':Ae}{cx cy:Value}(h:GB P t u S x y=some (v,S'))(hw:WF w g S)(hx:Rel w g x cx)(hy:Rel w g y cy):
  ∃cv w' g',(Builtin.append_ #[t,u] ty #[cx,cy]).run P w=.ok cv w'∧WF w' g' S'∧Rel w' g' v cv∧Evo w g w' g':=by
 unfold GB at h;split at h
 ·rename_i e sz by_ ys l es ht hs
  obtain⟨hut,hsz0,i,z,hi,hz,rfl,rfl,hzs⟩:=Ir ht;split at h
  ·rename_i n e' sz' hS
   split at h
   ·rename_i hcond
    obtain⟨rfl,rfl,rfl,hall,hall',hfit⟩:=hcond;cases h
    obtain⟨hf1,hf2⟩:=Je hfit;have hsz1:=Em hall;have hsz2:=Em hall';obtain⟨vs,hsrc,hvs⟩:=LA hs hy hall';have hx':=hx;cases hx with
    | sl _ _ _ A c sz0 cu hc hcm hsz hA h1 hr hm=>
     obtain⟨us,hus1,hus2,hus3,hus4⟩:=U2 (P:=P) hx' hsz1;have hsz12:∀e∈es++ys,e.cells.length=i.size:=fun e he=>by
      rcases List.mem_append.1 he with he|he
      ·exact hsz1 e he
      ·exact hsz2 e he
     rcases Nat.eq_zero_or_pos ys.length with h0|h0
     ·have hy0:ys=[]:=List.eq_nil_of_length_eq_zero h0
      subst hy0;have hv0:vs=[]:=by
       have :=hsrc.size;simp at this
       exact this
      subst hv0;refine⟨_,w,g,NR hut hi hsrc hc,?_,by simpa using hx',Evo.refl w g⟩
      have:S.set l (.buf (es.length+0) e' i.size)=S:=by
       rw[Nat.add_zero];refine List.ext_getElem? fun k=>?_
       by_cases hk:k=l
       ·subst hk
        rw[List.getElem?_set_self (List.getElem?_eq_some_iff.1 hS).1,hS]
       ·rw[List.getElem?_set_ne (fun e=>hk e.symm)]
      rw[List.length_nil,this];exact hw
     ·by_cases hroom:es.length+ys.length≤c
      ·obtain⟨hl,hbuf,hwm,hmode⟩:=hm
       have hgw:g.wm l=es.length:=(hw.obj l _ hS).2.1;rcases hmode with hmode|hmode|⟨rfl,rfl⟩
       ·omega
       ·omega
       ·obtain⟨_,_,hrow⟩:=hw.obj l _ hS
        rcases hrow with hrow|⟨hown,_,hnc,hG,cur,fr,hb,hfr,hcs⟩
        ·rw[hrow]at hroom;omega
        ·have hle:(es.length+ys.length)*i.size≤g.cap l*i.size:=Nat.mul_le_mul_right _ hroom
         rw[Nat.add_mul]at hle;have htake:cur.toList.take (es.length*i.size)=us:=by
          refine List.ext_getElem? fun j=>?_
          by_cases hj:j<es.length*i.size
          ·rw[List.getElem?_take_of_lt hj]
           have hju:us[j]? = some us[j]:=List.getElem?_eq_getElem (by omega)
           have :=hus4 (g.pl l) rfl j _ hju;rw[cell_of_row w _ j cur e' fr hb]at this;rw[hju,←this];simp
          ·rw[List.getElem?_take_eq_none (by omega),List.getElem?_eq_none (by omega)]
         obtain⟨g',h5,h6,h7⟩:=hw.extend (ys:=ys) hS rfl h0 (by omega) hb hroom hcm hsz12 us vs htake hus2 hvs
         refine⟨_,_,g',P0 hut hi hsrc hb hfr hroom ?_,h5,h7,h6⟩
         rw[hsrc.size];omega
      ·have hrun:=Mo (ty:=ty) hut hi hz hsrc (hus3 w.drew (fun _=>rfl)) (by omega) (by omega) (growslice_fits (by omega) hf1)
       have hge:=grownCap_ge w (es.length+ys.length) c e';have hcm':grownCap w (es.length+ys.length) c e'≤maxLen:=grownCap_le_maxLen w _ c e' (by simp only[maxLen];omega)
       have hlen:(es++ys).length=es.length+ys.length:=List.length_append;have hvl:=hsrc.size;obtain⟨g',h5,h6,h7⟩:=(hw.draw (w.drawn+1)).regrow (es:=es++ys) (cur:=us.toArray++vs.toArray++Builtin.zeroCells z.cells (grownCap w (es.length+ys.length) c e'-(es.length+ys.length))) (cap:=grownCap w (es.length+ys.length) c e') (fr:=(0,0)) hS (by rw[hlen];omega) hsz0 hsz12 (by rw[hlen];exact hge) hcm' (by
         simp only[Array.size_append,List.size_toArray,KF _ _ _ hzs,hus1,hvl,←Nat.add_mul];congr 1
         omega) (.inl (by simp)) (us++vs) (by
         rw[J9];refine⟨by have :=hus2.1;have :=hvs.1;simp at *;omega,fun v hv=>?_,fun j u v hu hv=>?_⟩
         ·rcases List.mem_append.1 hv with hv|hv
          ·exact hus2.2.1 v hv
          ·exact hvs.2.1 v hv
         ·have hl1:(Ak es).length=us.length:=by have :=hus2.1;simpa using this.symm
          simp only[List.getElem?_toArray]at hv
          rw[List.getElem?_append]at hu hv
          rw[hl1]at hu;split at hu
          ·rename_i hc;rw[if_pos hc]at hv;exact(hus2.2.2 j u v hu (by simpa using hv)).le (Evo.draw w g _).toLe.noid
          ·rename_i hc;rw[if_neg hc]at hv;exact(hvs.2.2 _ u v hu (by simpa using hv)).le (Evo.draw w g _).toLe.noid) (by
         simp only[Array.toList_append,List.append_assoc];rw[←List.append_assoc,List.take_left])
       rw[hlen]at h5 h7;exact⟨_,_,g',hrun,h5,h7,(Evo.draw w g _).trans h6⟩
   ·cases h
  ·cases h
 ·rename_i e sz by_ ys es ht hs
  obtain⟨hut,hsz0,i,z,hi,hz,rfl,rfl,hzs⟩:=Ir ht;split at h
  ·rename_i hcond
   obtain⟨hall,hall',hfit⟩:=hcond;cases h
   obtain⟨hf1,hf2⟩:=Je hfit;have hsz1:=Em hall;have hsz2:=Em hall';obtain⟨vs,hsrc,hvs⟩:=LA hs hy hall';have hx':=hx;cases hx with
   | sl _ _ _ A c sz0 cu hc hcm hsz hA h1 hr hm=>
    have hcn:c=es.length:=hm;obtain⟨us,hus1,hus2,hus3,hus4⟩:=U2 (P:=P) hx' hsz1;have hsz12:∀e∈es++ys,e.cells.length=i.size:=fun e he=>by
     rcases List.mem_append.1 he with he|he
     ·exact hsz1 e he
     ·exact hsz2 e he
    rcases Nat.eq_zero_or_pos ys.length with h0|h0
    ·have hy0:ys=[]:=List.eq_nil_of_length_eq_zero h0
     subst hy0;have hv0:vs=[]:=by
      have :=hsrc.size;simp at this
      exact this
     subst hv0;obtain⟨g',h5,h6,h7,h8,h9⟩:=hw.reserve es.length e i.size;refine⟨_,w,g',NR hut hi hsrc hc,by simpa using h5,?_,h6⟩
     have hr':=hx'.le h6.toLe;rw[List.append_nil];cases hr' with
     |sl _ _ _ _ _ sz0 cu hc hcm hsz hA h1 hr hm=>
      refine .sl _ _ es A c sz0 cu hc hcm hsz hA h1 hr ⟨?_,?_,?_,.inr (.inl hcn)⟩
      ·rw[h7,←hw.nid];omega
      ·rw[←hw.nid];exact h8
      ·rw[←hw.nid,h9];exact Nat.le_refl _
    ·have hrun:=Mo (ty:=ty) hut hi hz hsrc (hus3 w.drew (fun _=>rfl)) (by omega) (by omega) (growslice_fits (by omega) hf1)
     have hge:=grownCap_ge w (es.length+ys.length) c e;have hcm':grownCap w (es.length+ys.length) c e≤maxLen:=grownCap_le_maxLen w _ c e (by simp only[maxLen];omega)
     have hlen:(es++ys).length=es.length+ys.length:=List.length_append;have hvl:=hsrc.size;obtain⟨g',h5,h6,h7⟩:=(hw.draw (w.drawn+1)).new_buf (es:=es++ys) (cur:=us.toArray++vs.toArray++Builtin.zeroCells z.cells (grownCap w (es.length+ys.length) c e-(es.length+ys.length))) (e:=e) (cap:=grownCap w (es.length+ys.length) c e) (fr:=(0,0)) hsz0 hsz12 (by rw[hlen];exact hge) hcm' (by
       simp only[Array.size_append,List.size_toArray,KF _ _ _ hzs,hus1,hvl,←Nat.add_mul];congr 1
       omega) (.inl (by simp)) (us++vs) (by
       rw[J9];refine⟨by have :=hus2.1;have :=hvs.1;simp at *;omega,fun v hv=>?_,fun j u v hu hv=>?_⟩
       ·rcases List.mem_append.1 hv with hv|hv
        ·exact hus2.2.1 v hv
        ·exact hvs.2.1 v hv
       ·have hl1:(Ak es).length=us.length:=by have :=hus2.1;simpa using this.symm
        simp only[List.getElem?_toArray]at hv
        rw[List.getElem?_append]at hu hv
        rw[hl1]at hu;split at hu
        ·rename_i hc;rw[if_pos hc]at hv;exact(hus2.2.2 j u v hu (by simpa using hv)).le (Evo.draw w g _).toLe.noid
        ·rename_i hc;rw[if_neg hc]at hv;exact(hvs.2.2 _ u v hu (by simpa using hv)).le (Evo.draw w g _).toLe.noid) (by
       simp only[Array.toList_append,List.append_assoc];rw[←List.append_assoc,List.take_left])
     rw[hlen]at h5 h7;exact⟨_,_,g',hrun,h5,h7,(Evo.draw w g _).trans h6⟩
  ·cases h
 ·rename_i e sz by_ ys l n ht hs
  split at h
  ·rename_i cs e' sz' hS
   split at h
   ·rename_i hcond
    obtain⟨hn,rfl,rfl,hall,hfit⟩:=hcond;cases h
    exact Zk0 ht hs hS hn hall hfit hw hx hy
   ·cases h
  ·cases h
 ·cases h
theorem YY{o:Oper}{e:Af}{v:AV}{S':Ae}{x y:Operand}{t u:TypeId}(ho:o.op=.call { callee:=.builtin .append,args:= #[x,y],argTypes:= #[t,u] })(h:GB P t u S (ev e x) (ev e y)=some (v,S')):AR P o e S v S':=
 Dj fun ρ w g hw hr=>by
  have hx:=hr x (by rw[ho];simp[Op.operands,Call.operands])
  have hy:=hr y (by rw[ho];simp[Op.operands,Call.operands])
  obtain⟨cv,w',g',h1,h2,h3,h4⟩:=Zk1 (ty:=o.type) h hw hx hy;refine⟨cv,w',g',?_,h2,h3,h4⟩
  unfold execOp;simp only[ho];show Sem.run P (do let d ←resolve ρ _ o.type;invoke d.target d.args) w=_
  simp only[resolve,Sem.run_bind,Sem.run_pure,Result.andThen_ok,invoke,builtin,List.map_toArray,List.map_cons,List.map_nil,h1]
theorem ZiI{o:Oper}{e:Af}{v:AV}{z:SObj}{x y:Operand}{t u:TypeId}(ho:o.op=.call { callee:=.builtin .append,args:= #[x,y],argTypes:= #[t,u] })(h:Ky P t u S (ev e x) (ev e y)=some (v,z)):AR P o e S v (S++[z]):=
 Dj fun ρ w g hw hr=>by
  have hx:=hr x (by rw[ho];simp[Op.operands,Call.operands])
  have hy:=hr y (by rw[ho];simp[Op.operands,Call.operands])
  obtain⟨cv,w',g',h1,h2,h3,h4⟩:=Zk2 (ty:=o.type) h hw hx hy;refine⟨cv,w',g',?_,h2,h3,h4⟩
  unfold execOp;simp only[ho];show Sem.run P (do let d ←resolve ρ _ o.type;invoke d.target d.args) w=_
  simp only[resolve,Sem.run_bind,Sem.run_pure,Result.andThen_ok,invoke,builtin,List.map_toArray,List.map_cons,List.map_nil,h1]
theorem ZiG{o:Oper}{e:Af}{x:Operand}{s d el:TypeId}{l:List UInt8}(ho:o.op=.convert s d x)(hs:Ba P s=.str)(hd:P.underlying d=some (.slice el))(he:P.underlying el=some (.int .u8))(hx:ev e x=.st l)(hm:l.length≤140737488355328):
  AR P o e S (.sl (.own S.length) (l.map u8)) (S++[.buf l.length el 1]):=
 Dj fun ρ w g hw hr=>by
  have h:=hr x (by rw[ho];simp[Op.operands])
  rw[hx]at h;generalize hcx:ρ x=cx at h;cases h
  have hsize:(⟨l.toArray⟩:ByteArray).size=l.length:=by simp[ByteArray.size]
  have hrun:=run_bytes_of_string (P:=P) w s d el ⟨l.toArray⟩ (Gi hs) hd he;have hge:=grownCap_ge w (⟨l.toArray⟩:ByteArray).size 0 el;have hcm:=grownCap_le_maxLen w (⟨l.toArray⟩:ByteArray).size 0 el (by rw[hsize];unfold maxLen;omega)
  obtain⟨g',h5,h6,h7⟩:=(hw.draw (w.drawn+1)).new_buf (es:=l.map u8) (cur:=bytesRow ⟨l.toArray⟩ (grownCap w (⟨l.toArray⟩:ByteArray).size 0 el)) (e:=el) (sz:=1) (cap:=grownCap w (⟨l.toArray⟩:ByteArray).size 0 el) (fr:=((bytesRow ⟨l.toArray⟩ (grownCap w (⟨l.toArray⟩:ByteArray).size 0 el)).size,(bytesRow ⟨l.toArray⟩ (grownCap w (⟨l.toArray⟩:ByteArray).size 0 el)).size+1)) (by omega) (fun v hv=>by
    obtain⟨b,_,rfl⟩:=List.mem_map.1 hv;rfl) (by rw[List.length_map];rw[hsize]at hge;exact hge) hcm (by
    simp only[bytesRow,Array.size_append,Array.size_map,Array.size_replicate,Nat.mul_one];have e1:(⟨l.toArray⟩:ByteArray).data.size=l.length:=by simp
    have e2:l.toArray.size=l.length:=by simp
    have e3:=hge;rw[hsize]at e3 ⊢;omega) (.inr (Nat.le_refl _)) (l.map w8) (by
    rw[SH];refine⟨by simp,M0 l,fun j u v hu hv=>?_⟩
    rw[List.getElem?_map]at hu
    obtain⟨b,hb,rfl⟩:=Option.map_eq_some_iff.1 hu;simp[hb]at hv
    rw[←hv];exact .it _ _ _) (by
    simp only[bytesRow,Array.toList_append,Array.toList_map,Array.toList_replicate,List.length_map];rw[List.take_append_of_le_length (by simp)]
    rw[List.take_of_length_le (by simp)]
    rfl)
  rw[List.length_map]at h5 h7;rw[hsize]at hrun h7;refine⟨_,_,g',?_,h5,h7,(Evo.draw w g _).trans h6⟩
  unfold execOp;simp only[ho,hcx,Sem.run_bind,hrun,Result.andThen_ok,Sem.run_pure];rfl
end
end Pe
end
end Go.Proofs.YtchpmmjmimaigaaGreatDoor
