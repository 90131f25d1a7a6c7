import Derived.Test.YtipfggegddlgdaaGreatDoorKw10
import Derived.Below
import Derived.ChangeSame
import Derived.ProofKit
import Derived.OpenShut
import Derived.ShutString
import Derived.Deep.Strs
import Derived.SizedLaws
import Derived.Deep.Slices
import Derived.ChangeArms
import Derived.Laws.Entries
set_option linter.unusedSectionVars false
set_option linter.unusedVariables false
set_option linter.unusedSimpArgs false
namespace Go.Proofs.YtipfggegddlgdaaGreatDoor
section
namespace Pe
open Go Go.RowKit
set_option maxRecDepth 100000
set_option maxHeartbeats 4000000
variable [Tab]
section
variable {P:Program} {pf rf:List FuncId} {Kp lp wp:List Nat}
def Fl(P:Program)(pf rf:List FuncId)(Kp lp wp:List Nat):List AO→Af→Ae→(Af→Ae→Prop)→Prop
 |[],e,S,K=>K e S
 |o::rest,e,S,K=>∃b,FI o.gd e=some b∧match b with
  |true=>D6 P pf rf Kp lp wp [⟨o.dst,o.op,none⟩] e S fun e' S'=>Fl P pf rf Kp lp wp rest e' S' K
  |false=>Fl P pf rf Kp lp wp rest (put e o.dst (.tup [])) S K
theorem Zix(ops:Array Oper)(o:Oper)(e:Af):FI (DC ops o).gd e=Cc ops o e:=by
 unfold DC Cc;cases hgd:o.guard with
 |none=>rfl
 | some p=>
  obtain⟨j,want⟩:=p;simp only[FI,MJ];cases hd:(ops[j]?).bind (·.dst)with
  |none=>cases want<;>rfl
  |some d=>
   simp only
   cases he:e d with
   |bo b=>cases b<;>cases want<;>rfl
   |tup vs=>cases vs<;>cases want<;>rfl
   |_=>rfl
theorem B7.unguard{cls:Op→Cls}{o:Oper}{e:Af}{S S':Ae}{v:AV}(h:B7 P Kp lp wp cls { o with guard:=none } e S v S'):B7 P Kp lp wp cls o e S v S':=h
theorem Fq{ops:Array Oper}{Q:Af→Ae→Prop}:∀(l:List Oper) (e:Af) (S:Ae),Fl P pf rf Kp lp wp (l.map (DC ops)) e S Q→CE P Kp lp wp (Bp P pf rf) ops Q l e S
 |[],e,S,h=>h
 | o::rest,e,S,h=>by
  simp only[List.map_cons,Fl]at h;obtain⟨b,hb,h⟩:=h;rw[Zix]at hb;unfold CE;simp only[hb];cases b with
  |true=>
   simp only at h ⊢
   have h1:=GY (ops:=ops) [{ o with guard:=none }] e S (show D6 P pf rf Kp lp wp [⟨o.dst,o.op,none⟩] e S _ from h)
   unfold CE at h1;simp only[Cc]at h1;obtain⟨v,S',h2,h3⟩:=h1;exact⟨v,S',h2.unguard,Fq rest _ _ h3⟩
  |false=>
   simp only at h ⊢
   exact Fq rest _ _ h
section
variable {N N0:Nat} {Q:AX→Af→Ae→Prop} {e:Af} {S:Ae}
theorem HL{cls:Op→Cls}{ops:Array Oper}{Q:Af→Ae→Prop}(rest:List Oper):∀(l:List Oper) (e:Af) (S:Ae),CE P Kp lp wp cls ops (CE P Kp lp wp cls ops Q rest) l e S→CE P Kp lp wp cls ops Q (l++rest) e S
 |[],_,_,h=>h
 | o::l,e,S,h=>by
  simp only[List.cons_append,CE]at h ⊢;split at h
  ·obtain⟨v,S',hx,h⟩:=h
   exact⟨v,S',hx,HL rest l _ _ h⟩
  ·exact HL rest l _ _ h
  ·exact h
theorem Sq{pf rf:List FuncId}{ops:Array Oper}{Q:Af→Ae→Prop}{o:Oper}{rest:List Oper}{e:Af}{S S':Ae}{v:AV}(h:AU P o e S v S')(hkeep:keeps Kp S S')(h':CE P Kp lp wp (Bp P pf rf) ops Q rest (put e o.dst v) S')(hg:o.guard=none:=by rfl)(hk:FW lp wp o.dst o.op=.ot:=by rfl)(hc:Bp P pf rf o.op=.write:=by rfl):CE P Kp lp wp (Bp P pf rf) ops Q (o::rest) e S:=by
 unfold CE;simp only[Cc,hg];refine⟨v,S',?_,h'⟩
 unfold B7;rw[hk];simp only[hc,Cl];exact⟨h,hkeep⟩
theorem M3{pf rf:List FuncId}{ops:Array Oper}{Q:Af→Ae→Prop}{o:Oper}{rest:List Oper}{e:Af}{S:Ae}{v:AV}(h:∀R,AU P o e (S++R) v (S++R))(h':CE P Kp lp wp (Bp P pf rf) ops Q rest (put e o.dst v) S)(hg:o.guard=none:=by rfl)(hk:FW lp wp o.dst o.op=.ot:=by rfl)(hc:Bp P pf rf o.op=.read:=by rfl):CE P Kp lp wp (Bp P pf rf) ops Q (o::rest) e S:=by
 unfold CE;simp only[Cc,hg];refine⟨v,S,?_,h'⟩
 unfold B7;rw[hk];simp only[hc,Cl];exact⟨by simpa using h,fun _ _=>rfl⟩
theorem QP{α:Type}:∀l:List α,(List.range l.length).filterMap (fun i=>l[i]?)=l
 |[]=>rfl
 |x::l=>by
  have :=QP l;rw[List.length_cons,List.range_succ_eq_map,List.filterMap_cons,List.filterMap_map];exact congrArg (x :: ·) this
theorem HW.spec4(pf rf:List FuncId)(Kp lp wp:List Nat){id:Nat}{ops:Array Oper}(hm:P.follows .mixedOrders=true)(hB:L0 lp wp (Bp P pf rf) ops (List.range ops.size)=true)(hds:DF N ops=true)(h:CE P Kp lp wp (Bp P pf rf) ops (Q .norm) ops.toList e S):HW P N N0 (.region id ops true) Q e S:=fun w0 g0 a w hn hc=>by
 refine PM (Kp:=Kp) hm hB hds (fun e S _ _ hc hq=>⟨e,S,hc,hq⟩) hc ?_
 have hl:=QP ops.toList;simp only[Array.length_toList,Array.getElem?_toList]at hl
 rw[hl];exact h
theorem HW.spec(pf rf:List FuncId)(Kp lp wp:List Nat){id:Nat}{ops:Array Oper}(hm:P.follows .mixedOrders=true)(hB:L0 lp wp (Bp P pf rf) ops (List.range ops.size)=true)(hds:DF N ops=true)(h:Fl P pf rf Kp lp wp (ops.toList.map (DC ops)) e S (Q .norm)):HW P N N0 (.region id ops true) Q e S:=fun w0 g0 a w hn hc=>by
 refine PM (Kp:=Kp) hm hB hds (fun e S _ _ hc hq=>⟨e,S,hc,hq⟩) hc ?_
 have hl:=QP ops.toList;simp only[Array.length_toList,Array.getElem?_toList]at hl
 rw[hl];exact Fq _ _ _ h
end
variable {K:Af→Ae→Prop} {e e':Af} {S S':Ae} {rest:List AO}
theorem g4{d:Option Nat}{op:Op}{gd:Option (Option Nat×Bool)}(hg:FI gd e=some true)(h:D6 P pf rf Kp lp wp [⟨d,op,none⟩] e S fun e' S'=>Fl P pf rf Kp lp wp rest e' S' K):Fl P pf rf Kp lp wp (⟨d,op,gd⟩::rest) e S K:=⟨true,hg,h⟩
theorem VW{d:Option Nat}{op:Op}{gd:Option (Option Nat×Bool)}(hg:FI gd e=some false)(h:Fl P pf rf Kp lp wp rest (put e d (.tup [])) S K):Fl P pf rf Kp lp wp (⟨d,op,gd⟩::rest) e S K:=⟨false,hg,h⟩
theorem EN(h:Fl P pf rf Kp lp wp rest e' S' K)(hk:keeps Kp S S':=by(intro k hk;simp only[List.mem_cons,List.not_mem_nil,or_false]at hk;first|(subst hk;rfl)|(rcases hk with rfl|rfl<;>rfl)|(rcases hk with rfl|rfl|rfl<;>rfl))):Pw P pf rf (fun e S=>Fl P pf rf Kp lp wp rest e S K) Kp lp wp [] S e' S':=⟨hk,h⟩
theorem EM{op:Op}(h:Fl P pf rf Kp lp wp rest e' S' K)(hk:I7 Kp op e=true:=by rfl):Pv P pf rf (fun e S=>Fl P pf rf Kp lp wp rest e S K) Kp lp wp op [] e e' S':=⟨hk,h⟩
theorem FD(h:K e S):Fl P pf rf Kp lp wp [] e S K:=h
end
section
variable {N0:Nat} {B:(AX→Af→Ae→Prop)→Af→Ae→Prop} {Q:AX→Af→Ae→Prop} {e:Af} {S:Ae}
theorem TB(N0:Nat)(I:Nat→Af→Ae→Prop):IZ N0 I 0=fun _ _=>False:=by
 funext e S
 exact propext ⟨fun⟨n,_,_,h,_⟩=>absurd h (Nat.not_lt_zero n),False.elim⟩
theorem Fz(h:B (CX Q fun _ _=>False) e S):HJ N0 B Q e S:=
 ⟨fun n e' S'=>n=0∧e'=e∧S'=S,⟨0,e,S,Ao.refl N0 e S,rfl,rfl,rfl⟩,fun n e' S' ⟨h1,h2,h3⟩=>by
  subst h1 h2 h3;rw[TB];exact h⟩
theorem Ic(h:∀K:Af→Ae→Prop,(∀e S,B (CX Q fun _ _=>False) e S→K e S)→B (CX Q K) e S):HJ N0 B Q e S:=
 ⟨fun n e' S'=>(n=1∧e'=e∧S'=S)∨(n=0∧B (CX Q fun _ _=>False) e' S'),⟨1,e,S,Ao.refl N0 e S,.inl ⟨rfl,rfl,rfl⟩⟩,fun n e' S' hI=>by
  rcases hI with⟨h1,h2,h3⟩|⟨h1,h2⟩
  ·subst h1 h2 h3
   exact h _ fun e2 S2 h2=>⟨0,e2,S2,by omega,Ao.refl N0 e2 S2,.inr ⟨rfl,h2⟩⟩
  ·subst h1
   rw[TB];exact h2⟩
end
section
variable {P:Program} {N N0:Nat} {Q:AX→Af→Ae→Prop} {e:Af} {S:Ae}
theorem Nm{n:Nat}{ρ:Nat→Nat}{o:SObj}(h:o.ok n=true)(hρ:∀i,i<n→ρ i=i):o.ren ρ=o:=by
 cases o with
 |cells cs=>
  have:cs.map (AV.r1 ρ)=cs:=E8 (p:=AV.o1 n) h fun v hv=>Dm hv hρ
  show SObj.cells _=_
  rw[this]
 |row cs e sz=>
  have:cs.map (AV.r1 ρ)=cs:=E8 (p:=AV.o1 n) h fun v hv=>Dm hv hρ
  show SObj.row _ _ _=_
  rw[this]
 |map es=>
  have h:=List.all_eq_true.1 h;show SObj.map _=SObj.map es
  congr 1
  rw[List.map_congr_left (g:=id) fun p hp=>?_,List.map_id]
  have :=h p hp;simp only[Bool.and_eq_true]at this;show(p.1.r2 ρ,p.2.r2 ρ)=p
  rw[Dl this.1 hρ,Dl this.2 hρ]
 |loop b D fn es ps asn bdy st=>
  have:es.map (AV.ren ρ)=es:=E8 (p:=AV.ok n) h fun v hv=>DR hv hρ
  show SObj.loop _ _ _ _ _ _ _ _=_
  rw[this]
 |_=>rfl
theorem Fin.all{P:Program}{rs:List ResultVar}{v:AV}{e e1:Af}{S S1 S':Ae}{vs:List AV}{N0:Nat}(hw:Ao N0 e S e1 S1)(h:C9 P rs e1 S1=some vs)(hS:S1.take S'.length=S')(hN:N0≤S'.length)(hok:S'.all (SObj.ok S'.length)=true)(hk:v.ok S'.length=true)(hv:(DO vs).wk=v):Fin P rs N0 v S' e S:=by
 have hid:∀i,i<S'.length→AH (List.range S'.length) i=i:=fun i hi=>by
  simp[AH,hi]
 refine⟨e1,S1,vs,List.range S'.length,hw,h,⟨List.nodup_range,by simp,fun i o hi=>?_⟩,by rw[List.take_range,Nat.min_eq_left hN],by rw[List.length_range];exact hk,.inr (by rw[DR hk (fun i hi=>hid i hi)];exact hv)⟩
 have hlt:=(List.getElem?_eq_some_iff.1 hi).1
 have ho:o.ok S'.length=true:=List.all_eq_true.1 hok o (List.mem_of_getElem? hi);rw[List.length_range,hid i hlt];refine⟨ho,?_⟩
 have h1:o.ren (AH (List.range S'.length))=o:=Nm ho hid;have h2:(S1.take S'.length)[i]? = S1[i]? :=List.getElem?_take_of_lt hlt
 rw[h1,←hi,←h2,hS]
theorem DD{P:Program}{rs:List ResultVar}{v:AV}{e:Af}{S S':Ae}{vs:List AV}{N0:Nat}(hok:S'.all (SObj.ok S'.length)=true)(h:C9 P rs e S=some vs:=by rfl)(hS:S.take S'.length=S':=by rfl)(hN:N0≤S'.length:=by exact Nat.le_of_ble_eq_true rfl)(hk:v.ok S'.length=true:=by rfl)(hv:(DO vs).wk=v:=by rfl):Dr P rs N0 v S' .ret e S:=Fin.all (Ao.refl N0 e S) h hS hN hok hk hv
theorem CO{P:Program}{rs:List ResultVar}{v:AV}{e:Af}{S S':Ae}{vs:List AV}{N0:Nat}(hok:S'.all (SObj.ok S'.length)=true)(h:C9 P rs e S=some vs:=by rfl)(hS:S.take S'.length=S':=by rfl)(hN:N0≤S'.length:=by exact Nat.le_of_ble_eq_true rfl)(hk:v.ok S'.length=true:=by rfl)(hv:(DO vs).wk=v:=by rfl):Dr P rs N0 v S' .norm e S:=Fin.all (Ao.refl N0 e S) h hS hN hok hk hv
end
section
variable {P:Program} {f:FuncId} {xs:List AV} {v:AV} {o o':SObj} {T:Ae}
theorem JS{v:AV}(h:v.ok 0=true)(g:Nat→Nat):v.ren g=v:=DR h fun i hi=>absurd hi (Nat.not_lt_zero _)
theorem AC.last1(h:AC P f (xs++[.ptr 0 0]) [o] v [o'])(l:Nat)(hT:T[l]? = some o)(hxs:xs.all (AV.ok 0)=true:=by rfl)(hv:v.ok 0=true:=by rfl)(ho:o.ok 0=true:=by rfl)(ho':o'.ok 0=true:=by rfl):AC P f (xs++[.ptr l 0]) T v (T.set l o'):=by
 have hx1:xs.all (AV.ok 1)=true:=List.all_eq_true.2 fun x hx=>Fx (List.all_eq_true.1 hxs x hx) (Nat.zero_le 1)
 have h1:(xs++[AV.ptr 0 0]).all (AV.ok 1)=true:=by rw[List.all_append,hx1];rfl
 have :=h.at1 (T:=T) l (by rw[G1 ho];exact hT) h1 (Fx hv (Nat.zero_le 1)) (H4 ho) (H4 ho')
 rw[List.map_append,E8 hxs (fun v hv=>JS hv _),JS hv,G1 ho']at this
 exact this
theorem AC.keepl(h:AC P f (xs++[.ptr 0 0]) [o] v [o])(l:Nat)(hT:T[l]? = some o)(hxs:xs.all (AV.ok 0)=true:=by rfl)(hv:v.ok 0=true:=by rfl)(ho:o.ok 0=true:=by rfl):AC P f (xs++[.ptr l 0]) T v T:=by
 have :=h.last1 (T:=T) l hT hxs hv ho ho;rwa[IW hT]at this
theorem cl{pf rf:List FuncId}{e:Af}{d:Option Nat}{rest:List AO}{K:Af→Ae→Prop}{gargs:List AV}(l:Nat)(h:AC P f (xs++[.ptr 0 0]) [o] v [o])(h':BA P pf rf rest (put e d v) T K)
  (hT:T[l]? = some o:=by rfl)(hg:gargs.map AV.wk=xs++[.ptr l 0]:=by rfl)(hxs:xs.all (AV.ok 0)=true:=by rfl)(hv:v.ok 0=true:=by rfl)(ho:o.ok 0=true:=by rfl):
  DG (KI P f gargs T) (F8 P pf rf d rest e K):=
 AZ (show AC P f (gargs.map AV.wk) T v T by rw[hg];exact h.keepl l hT hxs hv ho) h'
theorem XE{pf rf:List FuncId}{e:Af}{d:Option Nat}{rest:List AO}{K:Af→Ae→Prop}{args gargs:List AV}(l:Nat)(h:AC P f args [o] v [o])(h':BA P pf rf rest (put e d v) T K)
  (hT:T[l]? = some o:=by rfl)(hg:gargs.map AV.wk=args.map (AV.ren (AH [l])):=by rfl)(ha:args.all (AV.ok 1)=true:=by rfl)(hv:v.ok 0=true:=by rfl)(ho:o.ok 0=true:=by rfl):
  DG (KI P f gargs T) (F8 P pf rf d rest e K):=
 AZ (show AC P f (gargs.map AV.wk) T v T by
  have :=h.at1 (T:=T) l (by rw[G1 ho];exact hT) ha (Fx hv (Nat.zero_le 1)) (H4 ho) (H4 ho)
  rwa[JS hv,G1 ho,←hg,IW hT]at this) h'
end
end Pe
end
section
namespace Pe
open Go Go.RowKit Go.WideShapes Go.ChangeShapes
def PG(W:World)(b:Nat):Nat:=
 match W.heap[b]? with
 |some (.cells cs _ _)=>cs.size
 |_=>0
def g0(W:World):Gh:=⟨PG W,fun _=>0,fun _ _=>False,0,fun _=>false,fun _=>0,fun _=>0⟩
theorem UU{W:World}{b o:Nat}{v:Value}(h:W.cell? ⟨b,o,none⟩=some v):o<PG W b:=by
 unfold World.cell? at h;unfold PG;cases hb:W.heap[b]? with
 |none=>simp[hb]at h
 | some ob=>
  cases ob with
  | cells cs t fr=>
   simp only[hb]at h ⊢;by_cases hlt:o<cs.size
   ·exact hlt
   ·have hn:cs[o]? = none:=Array.getElem?_eq_none (by omega)
    simp[hn]at h
  |_=>simp[hb]at h
theorem Zap[Tab]{W:World}(h:∀b i v,Tab.T b i=some v→W.cell? ⟨b,i,none⟩=some v):WF W (g0 W) []:=
 ⟨rfl,fun l o hl=>by simp at hl,fun l l' b hl=>absurd hl (Nat.not_lt_zero _),fun l b hl=>absurd hl (Nat.not_lt_zero _),fun b i v hv=>⟨UU (h b i v hv),h b i v hv⟩⟩
theorem ZfZ{W W':World}{g':Gh}(h:Evo W (g0 W) W' g'):Below W.heap.size W W':=
 ⟨h.os,h.tape,h.output,h.size,fun b hb=>h.old b hb fun l hl=>absurd hl (Nat.not_lt_zero _)⟩
theorem law_run[Tab]{P:Program}{f:FuncId}{args:List AV}{S':Ae}{b:Bool}(h:AC P f args [] (.bo b) S'){W:World}(hT:∀b i v,Tab.T b i=some v→W.cell? ⟨b,i,none⟩=some v){cargs:Array Value}(ha:F7 W (g0 W) args cargs):
  Calls P f cargs W fun e W'=>e=.returned (.bool b)∧Below W.heap.size W W':=
 (h.run W (g0 W) cargs (Zap hT) ha).mono fun e W' ⟨cv,g',he,_,hr,hev⟩=>by
  cases hr
  exact⟨he,ZfZ hev⟩
theorem lrel0{w:World}{g:Gh}:F7 w g [] #[]:=⟨rfl,fun j u v hu=>by simp at hu⟩
theorem lrelL{w:World}{g:Gh}{us:List AV}{vs:List Value}{u:AV}{v:Value}(h:Rel w g u v)(hs:F7 w g us vs.toArray):F7 w g (u::us) (v::vs).toArray:=by
 refine⟨by have :=hs.1;simp at this;simp[this],fun j a b ha hb=>?_⟩
 cases j with
 |zero=>simp at ha hb;subst ha hb;exact h
 |succ j=>exact hs.2 j a b (by simpa using ha) (by simpa using hb)
theorem Zcv(W:World)(g:Gh)(x:ByteArray):Rel W g (.st x.data.toList) (.string x):=by
 have :=Rel.st (w:=W) g x.data.toList;rwa[show(⟨x.data.toList.toArray⟩:ByteArray)=x from by rw[Array.toArray_toList]]at this
theorem Zcx(W:World)(g:Gh):Rel W g (.sl .ro []) (.slice none 0 0):=
 .sl g .ro [] none 0 0 (fun _=>.bool false) (Nat.le_refl _) (Nat.zero_le _) (fun e he=>by simp at he) (fun h=>absurd h (by simp)) (fun j hj=>by simp[Ak]at hj) (fun j u hu=>by simp[Ak]at hu) trivial
end Pe
namespace Pe
open Go Go.RowKit Go.ChangeShapes
def Mq(P:Program)(t:TypeId):List Field→Nat→Bool
 |[],o=>o==P.cellsOf t
 |f::r,o=>f.offset==o&&Mq P t r (o+P.cellsOf f.type)
def HE(P:Program)(t:TypeId):Bool:=match P.underlying t with
 |some (.struct _)=>true
 |_=>false
def fo(P:Program):Nat→TypeId→Bool
 |0,_=>false
 |n+1,t=>match P.underlying t with
  |some .bool=>P.cellsOf t==1
  |some .string=>P.cellsOf t==1
  |some (.int _)=>P.cellsOf t==1
  |some (.slice e)=>P.cellsOf t==1&&decide (0<P.cellsOf e)&&decide (0<P.bytesOf e)&&fo P n e
  |some (.struct fs)=>Mq P t fs.toList 0&&fs.toList.all fun f=>fo P n f.type
  |_=>false
def el(ag:Bool)(us:List AV):AV:=if ag then .agg us else us.headD .junk
def Nv(S:TypeId→List AV→Prop):List Field→List AV→Prop
 |[],us=>us=[]
 |f::r,us=>∃a b,us=a++b∧S f.type a∧Nv S r b
def CF(P:Program)(B:Nat):Nat→TypeId→List AV→Prop
 |0,_,_=>False
 |n+1,t,us=>match P.underlying t with
  |some .bool=>∃b,us=[.bo b]
  |some .string=>∃l:List UInt8,us=[.st l]∧l.length≤B
  |some (.int k)=>∃i,us=[.it k i]∧(Lit.int k i).wf=true
  |some (.slice e)=>∃es:List (List AV),us=[.sl .ro (es.map (el (HE P e)))]∧(∀x∈es,CF P B n e x)∧es.length≤B
  |some (.struct fs)=>Nv (CF P B n) fs.toList us
  |_=>False
section
variable {P:Program}
theorem WT{B n:Nat}{t:TypeId}{us:List AV}(h:CF P B n t us):(el (HE P t) us).cells=us:=by
 cases n with
 |zero=>cases h
 |succ n=>
  unfold CF at h;unfold HE;split at h
  ·rename_i hu;rw[hu];obtain⟨b,rfl⟩:=h;rfl
  ·rename_i hu;rw[hu];obtain⟨b,rfl,_⟩:=h;rfl
  ·rename_i hu;rw[hu];obtain⟨b,rfl,_⟩:=h;rfl
  ·rename_i hu;rw[hu];obtain⟨b,rfl,_⟩:=h;rfl
  ·rename_i hu;rw[hu];rfl
  ·cases h
theorem AM.nil(w:World)(g:Gh):AM w g [] #[]:=⟨rfl,by simp,by simp⟩
theorem AM.one{w:World}{g:Gh}{u:AV}{v:Value}(h:Rel w g u v)(h1:v.oneCell'=true):AM w g [u] #[v]:=by
 refine⟨rfl,by simpa using h1,fun j x y hx hy=>?_⟩
 match j with
 |0=>cases hx;cases hy;exact h
 |j+1=>simp at hx
theorem AM.app{w:World}{g:Gh}{us us':List AV}{vs vs':List Value}(h:AM w g us vs.toArray)(h':AM w g us' vs'.toArray):AM w g (us++us') (vs++vs').toArray:=by
 obtain⟨a1,a2,a3⟩:=h;obtain⟨b1,b2,b3⟩:=h';have a1:vs.length=us.length:=by simpa using a1
 have b1:vs'.length=us'.length:=by simpa using b1
 refine⟨by simp[a1,b1],fun v hv=>?_,fun j x y hx hy=>?_⟩
 ·rcases List.mem_append.1 hv with hv|hv
  ·exact a2 v hv
  ·exact b2 v hv
 ·by_cases hj:j<us.length
  ·rw[List.getElem?_append_left hj]at hx
   have hy:vs[j]? = some y:=by rw[←List.getElem?_append_left (l₂:=vs') (by omega)];simpa using hy
   exact a3 j x y hx (by simpa using hy)
  ·rw[List.getElem?_append_right (by omega)]at hx
   have hy:vs'[j-us.length]? = some y:=by
    have:(vs++vs')[j]? = some y:=by simpa using hy
    rw[List.getElem?_append_right (by omega),a1]at this
    exact this
   exact b3 _ x y hx (by simpa using hy)
theorem ZfJ(f:List AV→AV)(es:List (List AV))(h:∀x∈es,(f x).cells=x):Ak (es.map f)=es.flatten:=by
 induction es with
 |nil=>rfl
 |cons x es ih=>
  rw[List.map_cons,Ak,List.flatMap_cons,h x (by simp),List.flatten_cons]
  exact congrArg _ (ih fun y hy=>h y (by simp[hy]))
theorem Wj{α:Type}{sz:Nat}:∀{es:List (List α)} (_:∀x∈es,x.length=sz) (j:Nat) (u:α),es.flatten[j]? = some u → ∃i k x,es[i]? = some x∧x[k]? = some u∧k<sz∧j=i*sz+k
 |[],_,j,u,h=>by simp at h
 | x::es,hs,j,u,h=>by
  have hx:=hs x (by simp)
  rw[List.flatten_cons]at h;by_cases hj:j<x.length
  ·rw[List.getElem?_append_left hj]at h
   exact⟨0,j,x,rfl,h,by omega,by omega⟩
  ·rw[List.getElem?_append_right (by omega)]at h
   obtain⟨i,k,y,h1,h2,h3,h4⟩:=Wj (fun y hy=>hs y (by simp[hy])) _ u h
   exact⟨i+1,k,y,by simpa using h1,h2,h3,by rw[Nat.succ_mul];omega⟩
theorem Wh{α:Type}{sz:Nat}:∀{es:List (List α)} (_:∀x∈es,x.length=sz),es.flatten.length=es.length*sz
 |[],_=>by simp
 |x::es,hs=>by
  rw[List.flatten_cons,List.length_append,Wh (fun y hy=>hs y (by simp[hy])),hs x (by simp),List.length_cons,Nat.succ_mul];omega
theorem Zaq{H:Type}{e:TypeId}{l:List (DataW H)}{d:DataW H}{n:Nat}(hd:d∈l)(hn:n∈d.weights P e):n∈DataW.weightsAll P e l:=by
 induction l with
 |nil=>cases hd
 |cons a l ih=>
  rw[DataW.weightsAll];rcases List.mem_cons.1 hd with rfl|hd
  ·exact List.mem_append_left _ hn
  ·exact List.mem_append_right _ (ih hd)
variable {H:Type} {enc:TypeId×Value→H} {W:World} {base:Nat} {spare:Nat→Bool} {held:Bool}
theorem Zdp(B:Nat):∀(n fuel:Nat) (t:TypeId) (cs:List Value) (x:DataW H×List MemPlace),fo P n t=true→DataW.trod enc P W base spare held fuel t cs=some x→(∀m∈x.1.weights P t,m≤B) →
  ∃us,CF P B n t us∧AM W (g0 W) us cs.toArray∧cs.length=P.cellsOf t:=by
 intro n;induction n with
 |zero=>intro fuel t cs x h;cases h
 | succ n ih=>
  intro fuel t cs x hf ht hwt;unfold fo at hf;unfold CF;split at hf<;>rename_i hu
  ·obtain⟨b,rfl,_⟩:=DataW.trod_bool hu ht
   exact⟨[.bo b],⟨b,rfl⟩,AM.one (.bo _ b) rfl,by simpa using Eq.symm (by simpa using hf)⟩
  ·obtain⟨s,rfl,rfl,hs⟩:=DataW.trod_string hu ht
   exact⟨[.st s.data.toList],⟨_,rfl,by simpa[DataW.weights] using hwt s.data.toList.length (by simp[DataW.weights])⟩,AM.one (Zcv W _ s) rfl,by simpa using Eq.symm (by simpa using hf)⟩
  ·obtain⟨i,rfl,_,hi⟩:=DataW.trod_int hu ht
   exact⟨[.it _ i],⟨i,rfl,hi⟩,AM.one (.it _ _ i) rfl,by simpa using Eq.symm (by simpa using hf)⟩
  ·rename_i e
   simp only[Bool.and_eq_true,decide_eq_true_eq,beq_iff_eq]at hf;obtain⟨⟨⟨hc,hpos⟩,hbp⟩,hfe⟩:=hf;rcases Go.Deep.open_slice hu ht with⟨rfl,_⟩|⟨a,len,cap,m,k,D,Pl,rfl,_,hle,hmx,hm,rfl,hx⟩
   ·exact⟨[.sl .ro []],⟨[],rfl,by simp,Nat.zero_le _⟩,AM.one (Zcx W _) rfl,by simpa using hc.symm⟩
   have hlm:len≤m:=by rw[hm];split<;>omega
   obtain⟨U,hU⟩:=Go.Deep.choose_lt (α:=List AV×List Value) (n:=len) (p:=fun i q=>CF P B n e q.1∧AM W (g0 W) q.1 q.2.toArray∧q.2.length=P.cellsOf e∧W.cells? base (a.add (i*P.cellsOf e)) (P.cellsOf e)=some q.2) (fun i hi=>by
    obtain⟨cs',h1,h2⟩:=hx i (by omega)
    obtain⟨us,h3,h4,h5⟩:=ih _ _ _ _ hfe h2 (fun y hy=>hwt y (by
     simp only[DataW.weights,hu];exact List.mem_cons_of_mem _ (List.mem_append_left _ (Zaq (List.mem_map.2 ⟨i,by simpa using hi,rfl⟩) hy))))
    exact⟨(us,cs'),h3,h4,h5,h1⟩)
   have hes:∀x∈(List.range len).map fun i=>(U i).1,CF P B n e x:=fun x hx=>by
    obtain⟨i,hi,rfl⟩:=List.mem_map.1 hx;exact(hU i (by simpa using hi)).1
   have hsz:∀x∈(List.range len).map fun i=>(U i).1,x.length=P.cellsOf e:=fun x hx=>by
    obtain⟨i,hi,rfl⟩:=List.mem_map.1 hx;have h:=hU i (by simpa using hi)
    have :=h.2.1.1;rw[←this];simpa using h.2.2.1
   have hlB:len≤B:=by
    have h:=hwt ((((List.range len).map D).length+((List.range (m-len)).map fun j=>D (len+j)).length)*P.bytesOf e) (by simp only[DataW.weights,hu];exact List.mem_cons_self ..)
    rw[List.length_map,List.length_range]at h;exact Nat.le_trans (Nat.le_trans (Nat.le_add_right _ _) (Nat.le_mul_of_pos_right _ hbp)) h
   refine⟨_,⟨(List.range len).map fun i=>(U i).1,rfl,hes,by simpa using hlB⟩,AM.one ?_ rfl,by simpa using hc.symm⟩
   have hfl:Ak (((List.range len).map fun i=>(U i).1).map (el (HE P e)))=((List.range len).map fun i=>(U i).1).flatten:=ZfJ _ _ fun x hx=>WT (hes x hx)
   have hln:(((List.range len).map fun i=>(U i).1).map (el (HE P e))).length=len:=by simp
   have hcell:∀j u,((List.range len).map fun i=>(U i).1).flatten[j]? = some u → ∃v,W.cell? (a.add j)=some v∧v.oneCell'=true∧Rel W (g0 W) u v:=by
    intro j u hj;obtain⟨i,k',x,h1,h2,h3,rfl⟩:=Wj hsz j u hj;rw[List.getElem?_map]at h1
    by_cases hi:i<len
    ·rw[List.getElem?_range hi]at h1
     simp only[Option.map_some,Option.some.injEq]at h1;subst h1;obtain⟨g1,g2,g3,g4⟩:=hU i hi;obtain⟨_,c2,c3⟩:=World.cells?_some g4
     have hk:k'<(U i).2.length:=by omega
     have c4:=c3 k' h3;rw[List.getElem?_eq_getElem hk]at c4
     refine⟨(U i).2[k'],?_,g2.2.1 _ (by simp),g2.2.2 k' u _ h2 (by simp[hk])⟩
     rw[←c4];congr 1
     generalize i*P.cellsOf e=y;unfold Addr.add;by_cases hy:y=0<;>by_cases hk:k'=0<;>simp[hy,hk,Nat.add_assoc]
    ·rw[List.getElem?_eq_none (by simp;omega)]at h1
     cases h1
   have hfln:=Wh hsz;rw[List.length_map,List.length_range]at hfln;have hget:∀j,j<((List.range len).map fun i=>(U i).1).flatten.length → ∃u,((List.range len).map fun i=>(U i).1).flatten[j]? = some u:=fun j hj=>⟨_,List.getElem?_eq_getElem hj⟩
   have h:=Rel.sl (w:=W) (g0 W) .ro (((List.range len).map fun i=>(U i).1).map (el (HE P e))) (some a) cap (P.cellsOf e) (fun j=>(W.cell? (a.add j)).getD default) (by rw[hln];exact hle) hmx
    (fun x hx=>by
     obtain⟨y,hy,rfl⟩:=List.mem_map.1 hx;rw[WT (hes y hy),hsz y hy])
    (fun h0=>?_) (fun j hj=>?_) (fun j u hu'=>?_) trivial
   ·rw[hln]at h;exact h
   ·rw[hln]at h0
    obtain⟨b,off,spot⟩:=a;have hp0:0<((List.range len).map fun i=>(U i).1).flatten.length:=by rw[hfln];exact Nat.mul_pos h0 hpos
    have hspot:spot=none:=by
     obtain⟨u,hu'⟩:=hget 0 hp0;obtain⟨v,hv,_⟩:=hcell 0 u hu';simpa[Addr.add] using World.cell?_spot hv
    subst hspot;refine⟨b,off,rfl,fun j hj=>?_⟩
    rw[hfl]at hj;obtain⟨u,hu'⟩:=hget j hj;obtain⟨v,hv,_⟩:=hcell j u hu';rw[Addr.add_lit]at hv;refine⟨UU hv,?_⟩
    show _=some ((W.cell? (Addr.add ⟨b,off,none⟩ j)).getD default)
    rw[Addr.add_lit,hv];rfl
   ·rw[hfl]at hj
    obtain⟨u,hu'⟩:=hget j hj;obtain⟨v,hv,h1,_⟩:=hcell j u hu';show((W.cell? (a.add j)).getD default).oneCell'=true
    rw[hv];exact h1
   ·rw[hfl]at hu'
    obtain⟨v,hv,_,h2⟩:=hcell j u hu';show Rel W (g0 W) u ((W.cell? (a.add j)).getD default)
    rw[hv];exact h2
  ·rename_i fs
   simp only[Bool.and_eq_true,List.all_eq_true]at hf;obtain⟨xs,k,_,rfl,hl,hlen,hx⟩:=DataW.trod_struct hu ht;suffices H:∀(r:List Field) (o i:Nat),Mq P t r o=true→(∀f∈r,fo P n f.type=true)→r=fs.toList.drop i→o≤cs.length →
     ∃us,Nv (CF P B n) r us∧AM W (g0 W) us (cs.drop o).toArray by
    obtain⟨us,h1,h2⟩:=H fs.toList 0 0 hf.1 hf.2 rfl (Nat.zero_le _);exact⟨us,h1,by simpa using h2,hl⟩
   intro r;induction r with
   |nil=>
    intro o i hc _ _ ho
    have:o=cs.length:=by rw[hl];simpa[Mq] using hc
    subst this;exact⟨[],rfl,by rw[List.drop_length];exact AM.nil _ _⟩
   | cons f r ihr=>
    intro o i hc hall hr ho;simp only[Mq,Bool.and_eq_true,beq_iff_eq]at hc;have hfi:fs[i]? = some f:=by
     have:(fs.toList.drop i)[0]? = some f:=by rw[←hr];rfl
     simpa using this
    have hil:i<xs.length:=by
     rw[hlen];exact(Array.getElem?_eq_some_iff.1 hfi).1
    have hxi:=hx i f hfi;rw[List.getElem?_eq_getElem hil]at hxi
    obtain⟨us,h1,h2,h3⟩:=ih _ _ _ _ (hall f (by simp)) hxi (fun y hy=>hwt y (by
     simp only[DataW.weights,hu];refine DataW.weights_mem_each (j:=i) (t:=f.type) (d:=(xs[i]).1) ?_ ?_ y hy
     ·rw[List.getElem?_map,Array.getElem?_toList,hfi];rfl
     ·rw[List.getElem?_map,List.getElem?_eq_getElem hil];rfl))
    rw[hc.1]at h2 h3;rw[List.length_take,List.length_drop]at h3;obtain⟨us',h4,h5⟩:=ihr (o+P.cellsOf f.type) (i+1) hc.2 (fun f' hf'=>hall f' (by simp[hf'])) (by rw[←List.drop_drop,←hr];rfl) (by omega)
    refine⟨us++us',⟨us,us',rfl,h1,h4⟩,?_⟩
    have :=AM.app h2 h5;rw[←List.drop_drop,List.take_append_drop]at this;exact this
  ·cases hf
theorem open_cell{B n:Nat}{t:TypeId}{v:Value}{d:DataW H}{p:List MemPlace}(hf:fo P n t=true)(hv:v.cells = #[v])(h:DataW.Trod enc P W base spare held t v d p)(hwt:∀m∈d.weights P t,m≤B):
  ∃us,CF P B n t us ∧ ∀u,us=[u]→Rel W (g0 W) u v:=by
 obtain⟨fuel,h⟩:=h;rw[hv]at h;obtain⟨us,h1,h2,_⟩:=Zdp B n fuel t _ _ hf h hwt;exact⟨us,h1,fun u hu=>h2.2.2 0 u v (by rw[hu];rfl) rfl⟩
theorem Zbw{B n:Nat}{t:TypeId}{us:List AV}(hu:P.underlying t=some .string)(h:CF P B (n+1) t us):∃l:List UInt8,us=[.st l]∧l.length≤B:=by unfold CF at h;rw[hu]at h;exact h
theorem Zby{B n:Nat}{k:IntKind}{t:TypeId}{us:List AV}(hu:P.underlying t=some (.int k))(h:CF P B (n+1) t us):∃i,us=[.it k i]∧(Lit.int k i).wf=true:=by unfold CF at h;rw[hu]at h;exact h
theorem Lv{B n:Nat}{t:TypeId}{us:List AV}(hu:P.underlying t=some (.int .i64))(h:CF P B (n+1) t us):∃i,us=[.it .i64 i] ∧ -9223372036854775808≤i∧i≤9223372036854775807:=by
 obtain⟨i,rfl,w⟩:=Zby hu h;clear h;have h:(decide (IntKind.i64.min≤i)&&decide (i≤IntKind.i64.max))=true:=w;simp only[Bool.and_eq_true,decide_eq_true_eq]at h;have h1:IntKind.i64.min = -9223372036854775808:=by decide
 have h2:IntKind.i64.max=9223372036854775807:=by decide
 rw[h1,h2]at h;exact⟨i,rfl,h⟩
theorem Zbx{α:Type}{B n:Nat}{t e:TypeId}{us:List AV}(enc:α→AV)(Q:α→Prop)(hu:P.underlying t=some (.slice e))(h:CF P B (n+1) t us)(he:∀x,CF P B n e x → ∃a,el (HE P e) x=enc a∧Q a):
  ∃l:List α,us=[.sl .ro (l.map enc)]∧l.length≤B ∧ ∀a∈l,Q a:=by
 unfold CF at h;rw[hu]at h;obtain⟨es,rfl,h1,h2⟩:=h;suffices H:∃l:List α,es.map (el (HE P e))=l.map enc∧l.length=es.length ∧ ∀a∈l,Q a by
  obtain⟨l,e1,e2,e3⟩:=H;exact⟨l,by rw[e1],by omega,e3⟩
 clear h2;induction es with
 |nil=>exact⟨[],rfl,rfl,by simp⟩
 | cons x es ih=>
  obtain⟨l,e1,e2,e3⟩:=ih fun y hy=>h1 y (by simp[hy])
  obtain⟨a,e4,e5⟩:=he x (h1 x (by simp))
  exact⟨a::l,by rw[List.map_cons,List.map_cons,e1,e4],by simp[e2],fun b hb=>by
   rcases List.mem_cons.1 hb with rfl|hb
   ·exact e5
   ·exact e3 b hb⟩
theorem Zbv{B n:Nat}{t:TypeId}{fs:Array Field}{us:List AV}(hu:P.underlying t=some (.struct fs))(h:CF P B (n+1) t us):Nv (CF P B n) fs.toList us:=by unfold CF at h;rw[hu]at h;exact h
theorem weights_of{ts:List TypeId}{ds:List (DataW H)}(h:(DataW.weightsEach P ts ds).all (· ≤ reachBytes)=true){j:Nat}{t:TypeId}{d:DataW H}(ht:ts[j]? = some t)(hd:ds[j]? = some d):∀m∈d.weights P t,m≤140737488351232:=fun m hm=>by
 have :=List.all_eq_true.1 h _ (DataW.weights_mem_each ht hd m hm);exact of_decide_eq_true this
end
end Pe
end
section
namespace Co
open Go
abbrev By:=List UInt8
def I8:Nat→Nat→By
 |0,_=>[]
 |f+1,n=>if n<128 then [UInt8.ofNat n]else UInt8.ofNat (128+n % 128)::I8 f (n / 128)
theorem Ut:∀(f g n:Nat),n<f→n<g→I8 f n=I8 g n
 |0,_,_,h,_=>by omega
 |_,0,_,_,h=>by omega
 |f+1,g+1,n,h,h'=>by
  unfold I8;by_cases hn:n<128
  ·rw[if_pos hn,if_pos hn]
  ·rw[if_neg hn,if_neg hn,Ut f g (n / 128) (by omega) (by omega)]
def num(n:Nat):By:=I8 (n+1) n
theorem H8{n:Nat}(h:n<128):num n=[UInt8.ofNat n]:=by unfold num I8;rw[if_pos h]
theorem LS{n:Nat}(h:¬n<128):num n=UInt8.ofNat (128+n % 128)::num (n / 128):=by
 unfold num;rw[I8,if_neg h,Ut n (n / 128+1) (n / 128) (by omega) (by omega)]
theorem Us(n:Nat):0<(num n).length:=by
 by_cases h:n<128
 ·rw[H8 h];simp
 ·rw[LS h];simp
theorem NW(k:Nat):∀n,n<128^(k+1)→(num n).length≤k+1:=by
 induction k with
 |zero=>intro n h;rw[H8 (by omega)];simp
 | succ k ih=>
  intro n h;by_cases h1:n<128
  ·rw[H8 h1];simp
  ·rw[LS h1,List.length_cons]
   have :=ih (n / 128) (by rw[Nat.div_lt_iff_lt_mul (by omega)];rw[Nat.pow_succ]at h;omega)
   omega
def Ai(n:Int):By:=if n<0 then []else num n.toNat
theorem H9(n:Nat):Ai (n:Int)=num n:=by unfold Ai;rw[if_neg (by omega),Int.toNat_natCast]
theorem AI(n:Int)(h:n<9223372036854775808):(Ai n).length≤9:=by
 unfold Ai;split
 ·simp
 ·exact NW 8 n.toNat (by omega)
def text(s:By):By:=num s.length++s
def list(l:List By):By:=num l.length++(l.map text).flatten
structure R where
 rest:By
 bad:Bool
def LI:By→Nat→Nat→Option (Nat×By)
 |[],_,_=>none
 |d::r,i,n=>if 9≤i then none else if 128≤d.toNat then LI r (i+1) (n+(d.toNat-128)*2^(7*i))else if d.toNat=0∧0<i then none else some (n+d.toNat*2^(7*i),r)
theorem TQ(d:UInt8)(r:By)(i n:Nat):LI (d::r) i n=if 9≤i then none else if 128≤d.toNat then LI r (i+1) (n+(d.toNat-128)*2^(7*i))else if d.toNat=0∧0<i then none else some (n+d.toNat*2^(7*i),r):=rfl
def fail:R:=⟨[],true⟩
def R.num(x:R):Nat×R:=match LI x.rest 0 0 with
 |some (n,r)=>(n,⟨r,x.bad⟩)
 |none=>(0,fail)
def R.take(x:R)(n:Nat):By×R:=if x.bad=true∨x.rest.length<n then([],fail)else(x.rest.take n,⟨x.rest.drop n,x.bad⟩)
def R.text(x:R):By×R:=x.num.2.take x.num.1
def R.texts:Nat→R→List By×R
 |0,x=>([],x)
 |n+1,x=>if x.bad then([],x)else(x.text.1::(R.texts n x.text.2).1,(R.texts n x.text.2).2)
def R.list(x:R):List By×R:=
 let y:=if x.num.2.rest.length<x.num.1 then fail else x.num.2
 if(y.texts x.num.1).2.bad then([],(y.texts x.num.1).2)else y.texts x.num.1
theorem Un{n:Nat}(h:n<256):(UInt8.ofNat n).toNat=n:=by rw[UInt8.toNat_ofNat'];omega
theorem TP:∀(f n i acc:Nat) (rest:By),n<f→i≤8→n<2^(63-7*i)→(0<i→0<n)→LI (num n++rest) i acc=some (acc+n*2^(7*i),rest)
 |0,_,_,_,_,h,_,_,_=>by omega
 | f+1,n,i,acc,rest,hf,hi,hn,h0=>by
  by_cases hs:n<128
  ·rw[H8 hs,List.cons_append,List.nil_append,TQ,Un (by omega),if_neg (by omega),if_neg (by omega),if_neg (by omega)]
  ·have hi7:i≤7:=by
    refine Nat.le_of_not_lt fun h=>?_
    obtain rfl:i=8:=by omega
    simp at hn
    omega
   rw[LS hs,List.cons_append,TQ,Un (by omega),if_neg (by omega),if_pos (by omega)]
   have hp:2^(63-7*i)=128*2^(63-7*(i+1)):=by rw[show 63-7*i=7+(63-7*(i+1))from by omega,Nat.pow_add]
   have hq:2^(7*(i+1))=128*2^(7*i):=by rw[show 7*(i+1)=7+7*i from by omega,Nat.pow_add]
   rw[TP f (n / 128) (i+1) _ rest (by omega) (by omega) (by omega) (fun _=>by omega)]
   congr 2
   rw[hq,show 128+n % 128-128=n % 128 from by omega,Nat.add_assoc]
   congr 1
   have:n=n % 128+n / 128*128:=by omega
   generalize n % 128=a at *;generalize n / 128=b at *;rw[this,Nat.add_mul];congr 1
   rw[Nat.mul_assoc]
theorem ZjT(n:Nat)(rest:By)(b:Bool)(h:n<2^63):R.num ⟨num n++rest,b⟩=(n,⟨rest,b⟩):=by
 unfold R.num;have :=TP (n+1) n 0 0 rest (by omega) (by omega) (by simpa using h) (by simp)
 simp only[Nat.zero_add,Nat.mul_zero,Nat.pow_zero,Nat.mul_one]at this;simp only[this]
theorem Zjb(s rest:By):R.take ⟨s++rest,false⟩ s.length=(s,⟨rest,false⟩):=by
 unfold R.take;rw[if_neg (by simp)]
 simp
end Co
end
end Go.Proofs.YtipfggegddlgdaaGreatDoor
