import Derived.Test.YtchpmmjmimaigaaGreatDoorKh2
import Derived.Deep.Draws
import Derived.Laws.StructEq
import Derived.Laws.Strings
import Derived.Laws.PanicsMore
import Derived.Laws.Tables
set_option linter.unusedSectionVars false
set_option linter.unusedVariables false
set_option linter.unusedSimpArgs false
namespace Go.Proofs.YtchpmmjmimaigaaGreatDoor
section
namespace Pe
open Go Go.RowKit
inductive Mode where
 |ro|full|own (l:Nat)
inductive AV where
 |bo (b:Bool)|it (k:IntKind) (n:Int)|st (l:List UInt8)|ot (v:Value)
 |sl (m:Mode) (es:List AV)|agg (cs:List AV)|tup (vs:List AV)
 |ptr (l off:Nat)|pst (e:AV) (off:Nat)|fn (f:Fn) (first caps:List AV)|mp (l:Nat)|junk
 |ws (l off n c:Nat)|fm (es:List (AV×AV))|wr (l n:Nat) (o:Option Nat)
 |wx (l o n m:Nat)
def AV.cells:AV→List AV
 |.agg cs=>cs
 |v=>[v]
def Ak(es:List AV):List AV:=es.flatMap AV.cells
structure Gh where
 G:Nat→Nat
 pl:Nat→Nat
 own:Nat→Nat→Prop
 nid:Nat
 buf:Nat→Bool
 wm:Nat→Nat
 cap:Nat→Nat
def Gh.noid(g:Gh):Gh:={ g with nid:=0 }
def KB(g:Gh)(m:Mode)(n:Nat)(A:Option Addr)(c:Nat):Prop:=
 match m with
 |.ro=>True
 |.full=>c=n
 |.own l=>l<g.nid∧g.buf l=true∧n≤g.wm l∧(n<g.wm l∨c=n∨(A=some ⟨g.pl l,0,none⟩∧c=g.cap l))
inductive Rel(w:World):Gh→AV→Value→Prop where
 |bo (g:Gh) (b:Bool):Rel w g (.bo b) (.bool b)
 |it (g:Gh) (k:IntKind) (n:Int):Rel w g (.it k n) (.int k n)
 |st (g:Gh) (l:List UInt8):Rel w g (.st l) (.string ⟨l.toArray⟩)
 |ot (g:Gh) (v:Value) (h:v.oneCell'=true):Rel w g (.ot v) v
 |junk (g:Gh) (v:Value):Rel w g .junk v
 | sl (g:Gh) (m:Mode) (es:List AV) (A:Option Addr) (c sz:Nat) (cu:Nat→Value)
   (hc:es.length≤c) (hcm:c≤maxLen) (hsz:∀e∈es,e.cells.length=sz)
   (hA:0<es.length → ∃b o,A=some ⟨b,o,none⟩ ∧ ∀j,j<(Ak es).length→o+j<g.G b∧w.cell? ⟨b,o+j,none⟩=some (cu j))
   (h1:∀j,j<(Ak es).length→(cu j).oneCell'=true)
   (hr:∀(j:Nat) (u:AV),(Ak es)[j]? = some u→Rel w g.noid u (cu j))
   (hm:KB g m es.length A c):Rel w g (.sl m es) (.slice A es.length c)
 | agg (g:Gh) (cs:List AV) (arr:Array Value) (hn:arr.size=cs.length) (h1:∀v∈arr.toList,v.oneCell'=true)
   (hr:∀(j:Nat) (u:AV) (v:Value),cs[j]? = some u→arr[j]? = some v→Rel w g u v):Rel w g (.agg cs) (.agg arr)
 | tup (g:Gh) (vs:List AV) (arr:Array Value) (hn:arr.size=vs.length)
   (hr:∀(j:Nat) (u:AV) (v:Value),vs[j]? = some u→arr[j]? = some v→Rel w g u v):Rel w g (.tup vs) (.tuple arr)
 |ptr (g:Gh) (l off:Nat) (hl:l<g.nid) (hb:g.buf l=false):Rel w g (.ptr l off) (.pointer (some ⟨g.pl l,off,none⟩))
 | pst (g:Gh) (e:AV) (off b o:Nat) (cu:Nat→Value)
   (hA:∀j,j<e.cells.length→o+j<g.G b∧w.cell? ⟨b,o+j,none⟩=some (cu j))
   (h1:∀j,j<e.cells.length→(cu j).oneCell'=true)
   (hr:∀(j:Nat) (u:AV),e.cells[j]? = some u→Rel w g.noid u (cu j)):Rel w g (.pst e off) (.pointer (some ⟨b,o+off,none⟩))
 | fn (g:Gh) (f:Fn) (first caps:List AV) (fa ca:Array Value) (hf:fa.size=first.length) (hc:ca.size=caps.length)
   (hrf:∀(j:Nat) (u:AV) (v:Value),first[j]? = some u→fa[j]? = some v→Rel w g u v)
   (hrc:∀(j:Nat) (u:AV) (v:Value),caps[j]? = some u→ca[j]? = some v→Rel w g u v):Rel w g (.fn f first caps) (.func f fa ca)
 |mp (g:Gh) (l:Nat) (hl:l<g.nid) (hb:g.buf l=false):Rel w g (.mp l) (.map (some (g.pl l)))
 | fm (g:Gh) (es:List (AV×AV)) (b:Nat) (me:Array MapEntry) (clock:Nat) (hG:0<g.G b) (hb:w.heap[b]? = some (.map me clock)) (hs:me.size=es.length)
   (hk:∀(j:Nat) (u:AV×AV) (x:MapEntry),es[j]? = some u→me[j]? = some x→Rel w g.noid u.1 x.key) (hv:∀(j:Nat) (u:AV×AV) (x:MapEntry),es[j]? = some u→me[j]? = some x→Rel w g.noid u.2 x.val):Rel w g (.fm es) (.map (some b))
 |ws (g:Gh) (l off n c:Nat) (hl:l<g.nid) (hb:g.buf l=false) (hc:n≤c) (hm:c≤maxLen):Rel w g (.ws l off n c) (.slice (some ⟨g.pl l,off,none⟩) n c)
 |wr (g:Gh) (l n c:Nat) (A:Option Addr) (hl:l<g.nid) (hb:g.buf l=true) (hw:n≤g.wm l) (hc:n≤c) (hm:c≤maxLen) (h0:0<n → ∃b o,A=some ⟨b,o,none⟩) (hA:n<g.wm l∨(c=g.cap l∧(0<c→A=some ⟨g.pl l,0,none⟩))):Rel w g (.wr l n none) (.slice A n c)
 |wp (g:Gh) (l n off b o:Nat) (hl:l<g.nid) (hb:g.buf l=true) (hw:n≤g.wm l) (hA:n<g.wm l∨(b=g.pl l∧o=off)):Rel w g (.wr l n (some off)) (.pointer (some ⟨b,o,none⟩))
 |wx (g:Gh) (l o n m c:Nat) (A:Option Addr) (hl:l<g.nid) (hb:g.buf l=true) (hm:m≤g.wm l) (hc:n≤c) (hcm:c≤maxLen) (hx:g.wm l=m→(0<n→A=some ⟨g.pl l,o,none⟩)∧(o=0→c=g.cap l∧(0<c→A=some ⟨g.pl l,0,none⟩))):Rel w g (.wx l o n m) (.slice A n c)
structure Le(w:World)(g:Gh)(w':World)(g':Gh):Prop where
 cell:∀b o v,o<g.G b→w.cell? ⟨b,o,none⟩=some v→w'.cell? ⟨b,o,none⟩=some v
 G:∀b o v,o<g.G b→w.cell? ⟨b,o,none⟩=some v→o<g'.G b
 nid:g.nid≤g'.nid
 keep:∀l,l<g.nid→g'.buf l=g.buf l∧((g'.pl l=g.pl l∧g'.wm l=g.wm l∧g'.cap l=g.cap l)∨(g.buf l=true∧g.wm l<g'.wm l))
 map:∀b me c,0<g.G b→w.heap[b]? = some (.map me c)→0<g'.G b∧w'.heap[b]? = some (.map me c)
theorem Le.refl(w:World)(g:Gh):Le w g w g:=⟨fun _ _ _ _ h=>h,fun _ _ _ h _=>h,Nat.le_refl _,fun _ _=>⟨rfl,.inl ⟨rfl,rfl,rfl⟩⟩,fun _ _ _ h h'=>⟨h,h'⟩⟩
theorem Le.trans{w w' w'':World}{g g' g'':Gh}(h:Le w g w' g')(h':Le w' g' w'' g''):Le w g w'' g'':=by
 refine⟨fun b o v hb hv=>h'.cell b o v (h.G b o v hb hv) (h.cell b o v hb hv),fun b o v hb hv=>h'.G b o v (h.G b o v hb hv) (h.cell b o v hb hv),Nat.le_trans h.nid h'.nid,fun l hl=>?_,fun b me c hg hm=>h'.map b me c (h.map b me c hg hm).1 (h.map b me c hg hm).2⟩
 obtain⟨h1,h2⟩:=h.keep l hl;obtain⟨h3,h4⟩:=h'.keep l (Nat.lt_of_lt_of_le hl h.nid);refine⟨h3.trans h1,?_⟩
 rcases h2 with⟨a,b,c⟩|⟨a,b⟩<;>rcases h4 with⟨d,e,f⟩|⟨d,e⟩
 ·exact .inl ⟨d.trans a,e.trans b,f.trans c⟩
 ·exact .inr ⟨by rw[←h1];exact d,by omega⟩
 ·exact .inr ⟨a,by omega⟩
 ·exact .inr ⟨a,by omega⟩
theorem Le.noid{w w':World}{g g':Gh}(h:Le w g w' g'):Le w g.noid w' g'.noid:=
 ⟨h.cell,h.G,Nat.le_refl _,fun l hl=>absurd hl (Nat.not_lt_zero _),h.map⟩
theorem KB.le{w w':World}{g g':Gh}{m:Mode}{n c:Nat}{A:Option Addr}(hm:KB g m n A c)(h:Le w g w' g'):KB g' m n A c:=by
 cases m with
 |ro=>trivial
 |full=>exact hm
 | own l=>
  obtain⟨a,b,c',d⟩:=hm;obtain⟨h1,h2⟩:=h.keep l a;refine⟨Nat.lt_of_lt_of_le a h.nid,by rw[h1];exact b,?_,?_⟩
  ·rcases h2 with⟨_,e,_⟩|⟨_,e⟩<;>omega
  ·rcases h2 with⟨e1,e2,e3⟩|⟨_,e⟩
   ·rw[e1,e2,e3];exact d
   ·exact .inl (by omega)
theorem Rel.le{w w':World}{g g':Gh}{v:AV}{cv:Value}(h:Rel w g v cv)(hl:Le w g w' g'):Rel w' g' v cv:=by
 induction h generalizing g' with
 |bo g b=>exact .bo _ b
 |it g k n=>exact .it _ k n
 |st g l=>exact .st _ l
 |ot g v h=>exact .ot _ v h
 |junk g v=>exact .junk _ v
 |sl g m es A c sz cu hc hcm hsz hA h1 hr hm ih=>
  refine .sl _ m es A c sz cu hc hcm hsz (fun h0=>?_) h1 (fun j u hu=>ih j u hu hl.noid) (hm.le hl)
  obtain⟨b,o,rfl,h⟩:=hA h0;exact⟨b,o,rfl,fun j hj=>⟨hl.G b _ _ (h j hj).1 (h j hj).2,hl.cell b _ _ (h j hj).1 (h j hj).2⟩⟩
 |agg g cs arr hn h1 hr ih=>exact .agg _ cs arr hn h1 fun j u v hu hv=>ih j u v hu hv hl
 |tup g vs arr hn hr ih=>exact .tup _ vs arr hn fun j u v hu hv=>ih j u v hu hv hl
 |ptr g l off h hb=>
  obtain⟨h1,h2⟩:=hl.keep l h;rcases h2 with⟨e,_,_⟩|⟨e,_⟩
  ·rw[←e];exact .ptr _ l off (Nat.lt_of_lt_of_le h hl.nid) (h1.trans hb)
  ·rw[hb]at e;cases e
 |pst g e off b o cu hA h1 hr ih=>
  exact .pst _ e off b o cu (fun j hj=>⟨hl.G b _ _ (hA j hj).1 (hA j hj).2,hl.cell b _ _ (hA j hj).1 (hA j hj).2⟩) h1 fun j u hu=>ih j u hu hl.noid
 |fn g f first caps fa ca hf hc hrf hrc ihf ihc=>exact .fn _ f first caps fa ca hf hc (fun j u v hu hv=>ihf j u v hu hv hl) fun j u v hu hv=>ihc j u v hu hv hl
 |mp g l h hb=>
  obtain⟨h1,h2⟩:=hl.keep l h;rcases h2 with⟨e,_,_⟩|⟨e,_⟩
  ·rw[←e];exact .mp _ l (Nat.lt_of_lt_of_le h hl.nid) (h1.trans hb)
  ·rw[hb]at e;cases e
 |fm g es b me clock hG hb hs hk hv ihk ihv=>
  have :=hl.map b me clock hG hb;exact .fm _ es b me clock this.1 this.2 hs (fun j u x hu hx=>ihk j u x hu hx hl.noid) fun j u x hu hx=>ihv j u x hu hx hl.noid
 |ws g l off n c h hb hc hm=>
  obtain⟨h1,h2⟩:=hl.keep l h;rcases h2 with⟨e,_,_⟩|⟨e,_⟩
  ·rw[←e];exact .ws _ l off n c (Nat.lt_of_lt_of_le h hl.nid) (h1.trans hb) hc hm
  ·rw[hb]at e;cases e
 |wr g l n c A h hb hw hc hm h0 hA=>
  obtain⟨h1,h2⟩:=hl.keep l h;rcases h2 with⟨e1,e2,e3⟩|⟨_,e⟩
  ·exact .wr _ l n c A (Nat.lt_of_lt_of_le h hl.nid) (h1.trans hb) (by rw[e2];exact hw) hc hm h0 (by rw[e1,e2,e3];exact hA)
  ·exact .wr _ l n c A (Nat.lt_of_lt_of_le h hl.nid) (h1.trans hb) (by omega) hc hm h0 (.inl (by omega))
 |wp g l n off b o h hb hw hA=>
  obtain⟨h1,h2⟩:=hl.keep l h;rcases h2 with⟨e1,e2,_⟩|⟨_,e⟩
  ·exact .wp _ l n off b o (Nat.lt_of_lt_of_le h hl.nid) (h1.trans hb) (by rw[e2];exact hw) (by rw[e1,e2];exact hA)
  ·exact .wp _ l n off b o (Nat.lt_of_lt_of_le h hl.nid) (h1.trans hb) (by omega) (.inl (by omega))
 |wx g l o n m c A h hb hm hc hcm hx=>
  obtain⟨h1,h2⟩:=hl.keep l h;rcases h2 with⟨e1,e2,e3⟩|⟨_,e⟩
  ·exact .wx _ l o n m c A (Nat.lt_of_lt_of_le h hl.nid) (h1.trans hb) (by rw[e2];exact hm) hc hcm (by rw[e1,e2,e3];exact hx)
  ·exact .wx _ l o n m c A (Nat.lt_of_lt_of_le h hl.nid) (h1.trans hb) (by omega) hc hcm (fun e'=>by omega)
inductive SObj where
 |cells (cs:List AV)
 |buf (n:Nat) (e:TypeId) (sz:Nat)
 |ext (X:World→Nat→(Nat→Prop)→Prop)
 |map (es:List (AV×AV))|siter (l:List UInt8) (pos:Nat)|dead|row (cs:List AV) (e:TypeId) (sz:Nat)
 |loop (b D:Nat) (fn:FuncId) (es:List AV) (ps:Array Tmp) (asn bdy:Code) (st:LoopState)
def Zk6(w:World)(g:Gh)(es:List (AV×AV))(me:Array MapEntry)(clock:Nat):Prop:=
 me.size=es.length∧((∀x∈me.toList,x.born<clock)∧clock=me.size ∧ ∀(i:Nat) x,me[i]? = some x→x.born=i)∧(me.toList.map (·.born)).Nodup ∧
 ∀(j:Nat) u x,es[j]? = some u→me[j]? = some x→Rel w g u.1 x.key∧Rel w g u.2 x.val
def Jg:Code→Option Code
 |.exit i=>some (.exit i)
 |.seq a b=>match Jg a with
  |some c=>some c
  |none=>Jg b
 |.cond _ t f=>match Jg t with
  |some c=>some c
  |none=>Jg f
 |.block _ b=>Jg b
 |_=>none
def JV(st:LoopState)(bdy:Code):Option Code:=match st with
 |.done=>Jg bdy
 |_=>none
def G7(w:World)(g:Gh)(l:Nat):SObj→Prop
 |.map es=>g.buf l=false∧g.own l (g.pl l)∧g.G (g.pl l)=0 ∧ ∃me clock,w.heap[g.pl l]? = some (.map me clock)∧Zk6 w g es me clock
 |.siter s pos=>g.buf l=false∧g.own l (g.pl l)∧g.G (g.pl l)=0∧w.heap[g.pl l]? = some (.stringIter ⟨s.toArray⟩ pos)
 |.dead=>True
 |.loop b D fn es ps asn bdy st=>g.buf l=false∧g.own l (g.pl l)∧g.G (g.pl l)=0∧g.pl l=b ∧ ∃tmps,w.heap[g.pl l]? = some (.loop { state:=st,pending:=JV st bdy,fn,tmps,params:=ps,assign:=asn,body:=bdy,defers:=D })∧tmps.size=es.length ∧ ∀(j:Nat) u x,es[j]? = some u→tmps[j]? = some x→Rel w g u x
 | .row cs e sz=>g.buf l=true∧(0<sz∧cs.length=g.wm l*sz)∧((g.cap l=0∧cs=[])∨(g.own l (g.pl l)∧g.G (g.pl l)=0 ∧ ∃arr,∃fr:Nat×Nat,w.heap[g.pl l]? = some (.cells arr e fr)∧fr.2≤fr.1∧arr.size=g.cap l*sz∧cs.length≤arr.size ∧
   (∀(j:Nat) v,arr[j]? = some v→j<cs.length→v.oneCell'=true) ∧ ∀(j:Nat) u v,cs[j]? = some u→arr[j]? = some v→Rel w g u v))
 | .cells cs=>g.buf l=false∧g.own l (g.pl l)∧g.G (g.pl l)=0 ∧ ∃arr T,∃fr:Nat×Nat,w.heap[g.pl l]? = some (.cells arr T fr)∧fr.2≤fr.1∧arr.size=cs.length ∧
   (∀v∈arr.toList,v.oneCell'=true) ∧ ∀(j:Nat) u v,cs[j]? = some u→arr[j]? = some v→Rel w g u v
 | .buf n e sz=>g.buf l=true∧g.wm l=n∧(g.cap l=0∨(g.own l (g.pl l)∧0<sz∧n≤g.cap l∧g.G (g.pl l)≤n*sz ∧
   ∃cur,∃fr:Nat×Nat,w.heap[g.pl l]? = some (.cells cur e fr)∧(fr.2≤fr.1∨cur.size≤fr.1)∧cur.size=g.cap l*sz))
 |.ext X=>g.buf l=false∧g.own l (g.pl l)∧(∀b,g.own l b→g.G b=0) ∧ ∀w':World,(∀b,g.own l b→w'.heap[b]? = w.heap[b]?)→X w' (g.pl l) (g.own l)
abbrev Ae:=List SObj
class Tab where
 T:Nat→Nat→Option Value
def Mr[Tab](w:World)(g:Gh):Prop:=∀b i v,Tab.T b i=some v→i<g.G b∧w.cell? ⟨b,i,none⟩=some v
theorem Mr.le[Tab]{w w':World}{g g':Gh}(h:Mr w g)(hl:Le w g w' g'):Mr w' g':=fun b i v hv=>⟨hl.G b i v (h b i v hv).1 (h b i v hv).2,hl.cell b i v (h b i v hv).1 (h b i v hv).2⟩
structure WF[Tab](w:World)(g:Gh)(S:Ae):Prop where
 nid:g.nid=S.length
 obj:∀l o,S[l]? = some o→G7 w g l o
 disj:∀l l' b,l<g.nid→l'<g.nid→g.own l b→g.own l' b→l=l'
 lt:∀l b,l<g.nid→g.own l b→b<w.heap.size
 tab:Mr w g
structure Evo(w:World)(g:Gh)(w':World)(g':Gh):Prop extends Le w g w' g' where
 os:w'.os=w.os
 tape:w'.tape=w.tape
 output:w'.output=w.output
 size:w.heap.size≤w'.heap.size
 old:∀b,b<w.heap.size→(∀l,l<g.nid → ¬g.own l b)→w'.heap[b]? = w.heap[b]?
 own:∀l b,l<g'.nid→g'.own l b→b<w.heap.size→l<g.nid∧g.own l b
 Gold:∀b,b<w.heap.size→(∀l,l<g.nid → ¬g.own l b)→g'.G b=g.G b
theorem Evo.refl(w:World)(g:Gh):Evo w g w g:=⟨Le.refl w g,rfl,rfl,rfl,Nat.le_refl _,fun _ _ _=>rfl,fun _ _ hl h _=>⟨hl,h⟩,fun _ _ _=>rfl⟩
theorem Evo.trans{w w' w'':World}{g g' g'':Gh}(h:Evo w g w' g')(h':Evo w' g' w'' g''):Evo w g w'' g'':=
 ⟨h.toLe.trans h'.toLe,h'.os.trans h.os,h'.tape.trans h.tape,h'.output.trans h.output,Nat.le_trans h.size h'.size,
 fun b hb hn=>(h'.old b (Nat.lt_of_lt_of_le hb h.size) fun l hl ho=>hn l (h.own l b hl ho hb).1 (h.own l b hl ho hb).2).trans (h.old b hb hn),
 fun l b hl ho hb=>by
  have h1:=h'.own l b hl ho (Nat.lt_of_lt_of_le hb h.size);exact h.own l b h1.1 h1.2 hb,
 fun b hb hn=>(h'.Gold b (Nat.lt_of_lt_of_le hb h.size) fun l hl ho=>hn l (h.own l b hl ho hb).1 (h.own l b hl ho hb).2).trans (h.Gold b hb hn)⟩
theorem Evo.draw(w:World)(g:Gh)(n:Nat):Evo w g { w with drawn:=n } g:=⟨⟨fun _ _ _ _ h=>h,fun _ _ _ h _=>h,Nat.le_refl _,fun _ _=>⟨rfl,.inl ⟨rfl,rfl,rfl⟩⟩,fun _ _ _ h h'=>⟨h,h'⟩⟩,rfl,rfl,rfl,Nat.le_refl _,fun _ _ _=>rfl,fun _ _ hl h _=>⟨hl,h⟩,fun _ _ _=>rfl⟩
abbrev Af:=Nat→AV
def Aw(e:Af)(d:Nat)(v:AV):Af:=fun t=>if t=d then v else e t
def put(e:Af)(d:Option Nat)(v:AV):Af:=match d with |some d=>Aw e d v|none=>e
theorem JI(e:Af)(d:Nat)(v:AV):Aw e d v d=v:=if_pos rfl
theorem HV(e:Af){d t:Nat}(h:t≠d)(v:AV):Aw e d v t=e t:=if_neg h
def Dk:Value→AV
 |.bool b=>.bo b
 |.int k n=>.it k n
 |.string s=>.st s.data.toList
 |.slice none 0 0=>.sl .full []
 |.agg _=>.junk
 |.tuple _=>.junk
 |v=>.ot v
def E5:Value→AV
 |.agg arr=>if arr.toList.all (·.oneCell')then .agg (arr.toList.map Dk)else .junk
 |v=>Dk v
def ev(e:Af):Operand→AV
 |.tmp t=>e t
 |.const v=>E5 v
 |.global g=>.ot (.pointer (some ⟨g,0,none⟩))
 |.func f=>.fn (.func f) [] []
theorem PM(w:World)(g:Gh)(v:Value):Rel w g (Dk v) v:=by
 unfold Dk;split
 ·exact .bo g _
 ·exact .it g _ _
 ·exact .st g _
 ·exact .sl g .full [] none 0 0 (fun _=>default) (Nat.le_refl _) (by simp) (by simp) (by simp) (by simp[Ak]) (by simp[Ak]) rfl
 ·exact .junk g _
 ·exact .junk g _
 ·exact .ot g _ (by cases v<;>simp_all [Value.oneCell'])
theorem Kg(w:World)(g:Gh)(v:Value):Rel w g (E5 v) v:=by
 unfold E5;split
 ·rename_i arr
  split
  ·rename_i h
   refine .agg g _ arr (by simp) (fun v hv=>by simpa using (List.all_eq_true.1 h) v hv) fun j u v hu hv=>?_
   rw[List.getElem?_map]at hu
   have:arr.toList[j]? = some v:=by simpa using hv
   rw[this]at hu;simp only[Option.map_some,Option.some.injEq]at hu;subst hu;exact PM w g v
  ·exact .junk g _
 ·exact PM w g v
def CZ(w:World)(g:Gh)(e:Af)(a:Act):Prop:=∀t,Rel w g (e t) (a.tmps.getD t undef)
theorem Ka{w:World}{g:Gh}{e:Af}{a:Act}(h:CZ w g e a)(x:Operand):Rel w g (ev e x) (a.eval x):=by
 cases x with
 |tmp t=>exact h t
 |const v=>exact Kg w g v
 |global n=>exact .ot g _ rfl
 |func f=>exact .fn g (.func f) [] [] #[] #[] rfl rfl (by simp) (by simp)
def AJ(P:Program)(t:TypeId):Option (Nat×Bool):=
 match P.info? t,P.underlying t with
 |some i,some d=>some (i.size,Is d)
 |_,_=>none
def Ar(P:Program)(t f:Nat):Option (Nat×Nat×Bool):=
 match P.underlying t with
 |some (.struct fs)=>match fs[f]? with
  |some fd=>(AJ P fd.type).map fun s=>(fd.offset,s.1,s.2)
  |none=>none
 |_=>none
def Bt(P:Program)(t:TypeId):Option (TypeId×Nat×Bool):=
 match P.underlying t with
 |some (.slice e)=>(AJ P e).map fun s=>(e,s.1,s.2)
 |_=>none
def NQ(P:Program)(t:TypeId):Option (Nat×Nat×Bool):=
 match P.underlying t with
 |some (.array n e)=>(AJ P e).map fun s=>(n,s.1,s.2)
 |_=>none
theorem Qx{P:Program}{t:TypeId}{sz:Nat}{ag:Bool}(h:AJ P t=some (sz,ag)):∃i d,P.info? t=some i∧P.underlying t=some d∧i.size=sz∧Is d=ag:=by
 unfold AJ at h;split at h
 ·rename_i i d h1 h2
  simp only[Option.some.injEq,Prod.mk.injEq]at h;exact⟨i,d,h1,h2,h.1,h.2⟩
 ·cases h
theorem run_sizeOf{P:Program}{t:TypeId}{sz:Nat}{ag:Bool}(h:AJ P t=some (sz,ag))(w:World):(sizeOf t).run P w=.ok sz w:=by
 obtain⟨i,d,h1,h2,h3,h4⟩:=Qx h;simp[sizeOf,typeInfo,h1,h3]
theorem OK{P:Program}{t:TypeId}{sz:Nat}{ag:Bool}(h:AJ P t=some (sz,ag))(w:World):(Go.isAgg t).run P w=.ok ag w:=by
 obtain⟨i,d,h1,h2,h3,rfl⟩:=Qx h;unfold Go.isAgg;rw[Sem.run_bind,run_underlying h2 w];cases d<;>simp_all [Is]
theorem Pr{P:Program}{t f o sz:Nat}{ag:Bool}(h:Ar P t f=some (o,sz,ag)):∃fs fd,P.underlying t=some (.struct fs)∧fs[f]? = some fd∧fd.offset=o∧AJ P fd.type=some (sz,ag):=by
 unfold Ar at h;split at h
 ·rename_i fs h1
  split at h
  ·rename_i fd h2
   obtain⟨⟨a,b⟩,h3,h4⟩:=Option.map_eq_some_iff.1 h;simp only[Prod.mk.injEq]at h4;exact⟨fs,fd,h1,h2,h4.1,by rw[h3,h4.2.1,h4.2.2]⟩
  ·cases h
 ·cases h
theorem Ep{P:Program}{t e sz:Nat}{ag:Bool}(h:Bt P t=some (e,sz,ag)):P.underlying t=some (.slice e)∧AJ P e=some (sz,ag):=by
 unfold Bt at h;split at h
 ·rename_i e' h1
  obtain⟨⟨a,b⟩,h3,h4⟩:=Option.map_eq_some_iff.1 h;simp only[Prod.mk.injEq]at h4;obtain⟨rfl,rfl,rfl⟩:=h4;exact⟨h1,h3⟩
 ·cases h
theorem TP{P:Program}{t n sz:Nat}{ag:Bool}(h:NQ P t=some (n,sz,ag)):∃e,P.underlying t=some (.array n e)∧AJ P e=some (sz,ag):=by
 unfold NQ at h;split at h
 ·rename_i n' e' h1
  obtain⟨⟨a,b⟩,h3,h4⟩:=Option.map_eq_some_iff.1 h;simp only[Prod.mk.injEq]at h4;obtain⟨rfl,rfl,rfl⟩:=h4;exact⟨e',h1,h3⟩
 ·cases h
def apart(cs:List AV)(off sz:Nat)(ag:Bool):Option AV:=
 if ag then(if off=0∧sz=cs.length then some (.agg cs)else if off+sz≤cs.length then some (.agg ((cs.drop off).take sz))else none)else cs[off]?
theorem Zal{w:World}{g:Gh}{cs:List AV}{arr:Array Value}(hn:arr.size=cs.length)(h1:∀v∈arr.toList,v.oneCell'=true)
  (hr:∀(j:Nat) u v,cs[j]? = some u→arr[j]? = some v→Rel w g u v){off sz:Nat}(h:off+sz≤cs.length):Rel w g (.agg ((cs.drop off).take sz)) (.agg (arr.extract off (off+sz))):=by
 refine .agg g _ _ ?_ ?_ ?_
 ·simp;omega
 ·intro v hv
  refine h1 v ?_
  simp only[Array.toList_extract,List.extract_eq_take_drop]at hv;exact List.mem_of_mem_drop (List.mem_of_mem_take hv)
 ·intro j u v hu hv
  rw[List.getElem?_take]at hu
  split at hu
  ·rw[List.getElem?_drop]at hu
   refine hr (off+j) u v hu ?_
   rw[Array.getElem?_extract]at hv
   split at hv
   ·exact hv
   ·cases hv
  ·cases hu
theorem Zam{w:World}{g:Gh}{cs:List AV}{arr:Array Value}(hn:arr.size=cs.length)(h1:∀v∈arr.toList,v.oneCell'=true)
  (hr:∀(j:Nat) u v,cs[j]? = some u→arr[j]? = some v→Rel w g u v){off sz:Nat}{v:AV}(h:apart cs off sz true=some v):off+sz≤arr.size∧Rel w g v (.agg (arr.extract off (off+sz))):=by
 unfold apart at h;simp only[if_true]at h;split at h
 ·rename_i h0
  obtain⟨rfl,rfl⟩:=h0;cases h
  have :=Zal hn h1 hr (off:=0) (sz:=cs.length) (by omega)
  refine⟨by omega,?_⟩
  rw[List.drop_zero,List.take_length]at this;exact this
 ·split at h
  ·rename_i hle
   cases h
   exact⟨by omega,Zal hn h1 hr hle⟩
  ·cases h
theorem P1{P:Program}{w:World}{g:Gh}{cs:List AV}{arr:Array Value}(hn:arr.size=cs.length)(h1:∀v∈arr.toList,v.oneCell'=true)
  (hr:∀(j:Nat) u v,cs[j]? = some u→arr[j]? = some v→Rel w g u v){t off sz:Nat}{ag:Bool}(ht:AJ P t=some (sz,ag)){v:AV}(h:apart cs off sz ag=some v):
  ∃cv,(part t arr off).run P w=.ok cv w∧Rel w g v cv:=by
 cases ag with
 |true=>exact⟨.agg (arr.extract off (off+sz)),by simp[part,OK ht,run_sizeOf ht],(Zam hn h1 hr h).2⟩
 |false=>
  simp only[apart,Bool.false_eq_true,if_false]at h;have hlt:off<cs.length:=(List.getElem?_eq_some_iff.1 h).1
  have hv:arr[off]? = some arr[off]:=Array.getElem?_eq_getElem (by omega)
  exact⟨arr[off],by simp[part,OK ht,hv],hr off v _ h hv⟩
inductive Kd where
 |int (k:IntKind)|bool|str|bytes|ptr|fun |other
 deriving DecidableEq
def Ba(P:Program)(t:TypeId):Kd:=
 match P.underlying t with
 |some (.int k)=>.int k
 |some .bool=>.bool
 |some .string=>.str
 |some (.slice e)=>match P.underlying e with
  |some (.int .u8)=>.bytes
  |_=>.other
 |some (.pointer _)=>.ptr
 |some (.func ..)=>.fun
 |_=>.other
def Jx(op:BinOp)(k:IntKind)(a b:Int):Option AV:=
 match op with
 |.add=>some (.it k (k.wrap (a+b)))
 |.sub=>some (.it k (k.wrap (a-b)))
 |.mul=>some (.it k (k.wrap (a*b)))
 |.quo=>if b=0 then none else some (.it k (k.wrap (a.tdiv b)))
 |.rem=>if b=0 then none else some (.it k (a.tmod b))
 |.and=>some (.it k (Go.bits .and k a b))
 |.or=>some (.it k (Go.bits .or k a b))
 |.xor=>some (.it k (Go.bits .xor k a b))
 |.andNot=>some (.it k (Go.bits .andNot k a b))
 |.eql=>some (.bo (a==b))
 |.neq=>some (.bo (a !=b))
 |.lss=>some (.bo (decide (a<b)))
 |.leq=>some (.bo (decide (a≤b)))
 |.gtr=>some (.bo (decide (a>b)))
 |.geq=>some (.bo (decide (a≥b)))
 |_=>none
def Js(op:BinOp)(a b:List UInt8):Option AV:=
 match op with
 |.add=>if a.length+b.length≤9223372036854775807 then some (.st (a++b))else none
 |.eql=>some (.bo (a==b))
 |.neq=>some (.bo (!(a==b)))
 |.lss=>some (.bo (Op.bytesLess a b))
 |.leq=>some (.bo (Op.bytesLess a b||a==b))
 |.gtr=>some (.bo (!(Op.bytesLess a b||a==b)))
 |.geq=>some (.bo (!Op.bytesLess a b))
 |_=>none
def HE(P:Program)(t:TypeId):Option (List (TypeId×Nat×Nat×Bool)):=
 match P.underlying t with
 |some (.struct fs)=>if P.stoodInHeld t then none else fs.toList.mapM fun f=>if f.name = "_" then none else(AJ P f.type).map fun s=>(f.type,f.offset,s.1,s.2)
 |_=>none
def G5(eq:TypeId→AV→AV→Option Bool)(xs ys:List AV):List (TypeId×Nat×Nat×Bool)→Option Bool
 |[]=>some true
 | (t,off,sz,ag)::fs=>
  match apart xs off sz ag,apart ys off sz ag with
  |some a,some b=>match eq t a b,G5 eq xs ys fs with
   |some r,some s=>some (r&&s)
   |_,_=>none
  |_,_=>none
def FC(P:Program):Nat→TypeId→AV→AV→Option Bool
 |0,_,_,_=>none
 | d+1,t,x,y=>
  match Ba P t,x,y with
  |.int _,.it k a,.it k' b=>if k=k' then some (a==b)else none
  |.str,.st a,.st b=>some (a==b)
  |.bool,.bo a,.bo b=>some (a==b)
  |_,.agg xs,.agg ys=>match HE P t with
   |some fs=>G5 (FC P d) xs ys fs
   |none=>none
  |_,_,_=>none
def Jt(k:IntKind)(a b:Int):Option AV:=if 0≤b then some (.it k (k.wrap (a*2^(min b.toNat k.bits))))else none
def G3(k:IntKind)(a b:Int):Option AV:=if 0≤b then some (.it k (a.fdiv (2^(min b.toNat k.bits))))else none
def EF(P:Program)(op:BinOp)(t:TypeId)(x y:AV):Option AV:=
 match x,y with
 |.it k a,.it k' b=>
  match op with
  |.shl=>Jt k a b
  |.shr=>G3 k a b
  |op=>if k=k' then Jx op k a b else none
 |.st a,.st b=>Js op a b
 |.bo a,.bo b=>if Ba P t=.bool then(match op with |.eql=>some (.bo (a==b))|.neq=>some (.bo (!(a==b)))|_=>none)else none
 |.agg xs,.agg ys=>if P.eqGuardType P.depth t then none else
  match op with
  |.eql=>(FC P 6 t (.agg xs) (.agg ys)).map .bo
  |.neq=>(FC P 6 t (.agg xs) (.agg ys)).map fun b=>.bo (!b)
  |_=>none
 |.ptr _ _,.ot (.pointer none)=>if Ba P t=.ptr then(match op with |.eql=>some (.bo false)|.neq=>some (.bo true)|_=>none)else none
 |.ot (.pointer none),.ot (.pointer none)=>if Ba P t=.ptr then(match op with |.eql=>some (.bo true)|.neq=>some (.bo false)|_=>none)else none
 |_,_=>none
section
variable {P:Program} {w:World} {g:Gh}
theorem Xn{t:TypeId}{k:IntKind}(h:Ba P t=.int k):P.underlying t=some (.int k):=by
 unfold Ba at h;split at h<;>first|(cases h;assumption)|cases h|(split at h<;>cases h)
theorem Xo{t:TypeId}(h:Ba P t=.bool):P.underlying t=some .bool:=by
 unfold Ba at h;split at h<;>first|assumption|cases h|(split at h<;>cases h)
theorem Gi{t:TypeId}(h:Ba P t=.str):P.underlying t=some .string:=by
 unfold Ba at h;split at h<;>first|assumption|cases h|(split at h<;>cases h)
theorem ZgZ{t:TypeId}(h:Ba P t=.bytes):∃e,P.underlying t=some (.slice e)∧P.underlying e=some (.int .u8):=by
 unfold Ba at h;split at h;case h_4 e h1=>
  split at h
  ·rename_i h2;exact⟨e,h1,h2⟩
  ·cases h
 all_goals cases h
theorem Xm{t:TypeId}(h:Ba P t=.ptr):∃e,P.underlying t=some (.pointer e):=by
 unfold Ba at h;split at h;case h_5 e h1=>exact⟨_,h1⟩
 case h_4 e h1=>split at h<;>cases h
 all_goals cases h
theorem ZkN{op:BinOp}{k:IntKind}{a b:Int}{v:AV}(t:TypeId)(h:Jx op k a b=some v):∃cv,(binOp op t (.int k a) (.int k b)).run P w=.ok cv w∧Rel w g v cv:=by
 cases op<;>simp only[Jx]at h<;>try (cases h;done)
 case quo=>
  by_cases h0:b=0
  ·simp[h0]at h
  ·rw[if_neg h0]at h
   cases h
   exact⟨_,by simp[binOp,Op.intDiv,h0],.it g _ _⟩
 case rem=>
  by_cases h0:b=0
  ·simp[h0]at h
  ·rw[if_neg h0]at h
   cases h
   exact⟨_,by simp[binOp,Op.intDiv,h0],.it g _ _⟩
 all_goals cases h
 case add=>exact⟨_,by simp[binOp,Op.intArith],.it g _ _⟩
 case sub=>exact⟨_,by simp[binOp,Op.intArith],.it g _ _⟩
 case mul=>exact⟨_,by simp[binOp,Op.intArith],.it g _ _⟩
 case and=>exact⟨_,by simp only[binOp,ne_eq,not_true_eq_false,if_false,intBits_and];rfl,.it g _ _⟩
 case or=>exact⟨_,by simp only[binOp,ne_eq,not_true_eq_false,if_false];rfl,.it g _ _⟩
 case xor=>exact⟨_,by simp only[binOp,ne_eq,not_true_eq_false,if_false];rfl,.it g _ _⟩
 case andNot=>exact⟨_,by simp only[binOp,ne_eq,not_true_eq_false,if_false];rfl,.it g _ _⟩
 all_goals exact⟨_,by simp[binOp,Op.intCmp],.bo g _⟩
theorem ZkE{op:BinOp}{a b:List UInt8}{v:AV}(t:TypeId)(h:Js op a b=some v):∃cv,(binOp op t (.string ⟨a.toArray⟩) (.string ⟨b.toArray⟩)).run P w=.ok cv w∧Rel w g v cv:=by
 cases op<;>simp only[Js]at h<;>try (cases h;done)
 case add=>
  split at h
  ·rename_i hle
   cases h
   refine⟨.string ⟨(a++b).toArray⟩,?_,.st g _⟩
   have e:(⟨a.toArray⟩:ByteArray)++⟨b.toArray⟩=⟨(a++b).toArray⟩:=by
    apply ByteArray.ext
    simp
   have hm:IntKind.i64.max=9223372036854775807:=by decide
   have hn:¬(9223372036854775807:Int)<((a.length+b.length:Nat):Int):=by omega
   have s1:(⟨a.toArray⟩:ByteArray).size=a.length:=by simp[ByteArray.size]
   have s2:(⟨b.toArray⟩:ByteArray).size=b.length:=by simp[ByteArray.size]
   simp only[binOp,Op.stringOp,s1,s2,hm,gt_iff_lt,if_neg hn,e];rfl
  ·cases h
 all_goals (cases h;exact⟨_,by simp[binOp,Op.stringOp],.bo g _⟩)
theorem Zie{t:TypeId}{l:List (TypeId×Nat×Nat×Bool)}(h:HE P t=some l):P.underlying t=some (.struct (P.fieldsOf t))∧P.stoodInHeld t=false ∧
  (P.fieldsOf t).toList.mapM (fun f:Field=>if f.name = "_" then none else(AJ P f.type).map fun s=>(f.type,f.offset,s.1,s.2))=some l:=by
 unfold HE at h;split at h
 ·rename_i fs h1
  split at h
  ·cases h
  ·rename_i h2
   have:P.fieldsOf t=fs:=by simp[Program.fieldsOf,h1]
   rw[this];exact⟨h1,by simpa using h2,h⟩
 ·cases h
theorem ZkS(d:Nat)(eq:TypeId→AV→AV→Option Bool)(heq:∀t x y b cx cy,eq t x y=some b→Rel w g x cx→Rel w g y cy→(Op.equalIn d t cx cy).run P w=.ok b w)
  {xs ys:List AV}{ax ay:Array Value}(hx:Rel w g (.agg xs) (.agg ax))(hy:Rel w g (.agg ys) (.agg ay)):∀(fs:List Field) (l:List (TypeId×Nat×Nat×Bool)) (b:Bool),
  fs.mapM (fun f:Field=>if f.name = "_" then none else(AJ P f.type).map fun s=>(f.type,f.offset,s.1,s.2))=some l→G5 eq xs ys l=some b→(Op.eqFields d ax ay fs).run P w=.ok b w:=by
 intro fs;cases hx with |agg _ _ _ hnx h1x hrx=>
 cases hy with |agg _ _ _ hny h1y hry=>
 induction fs with
 |nil=>
  intro l b h hb;simp at h
  subst h;simp[G5]at hb
  subst hb;simp[Op.eqFields]
 | cons f fs ih=>
  intro l b h hb;rw[List.mapM_cons]at h;by_cases hn:f.name = "_"
  ·simp[hn]at h
  ·simp only[hn,if_false,Option.bind_eq_bind,Option.pure_def]at h
   obtain⟨p,hp,h⟩:=Option.bind_eq_some_iff.1 h;obtain⟨⟨sz,ag⟩,hs,rfl⟩:=Option.map_eq_some_iff.1 hp;obtain⟨l',hl',h⟩:=Option.bind_eq_some_iff.1 h;cases h
   simp only[G5]at hb;split at hb
   ·rename_i a c ha hc
    split at hb
    ·rename_i r s hr hs'
     cases hb
     obtain⟨ca,hra,hca⟩:=P1 hnx h1x hrx hs ha;obtain⟨cc,hrc,hcc⟩:=P1 hny h1y hry hs hc;have :=heq _ _ _ _ _ _ hr hca hcc;have hi:=ih l' s hl' hs';simp only[Op.eqFields,ne_eq,hn,not_false_eq_true,if_true,Sem.run_bind,hra,hrc,this,Result.andThen_ok];cases r
     ·simp
     ·simpa using hi
    ·cases hb
   ·cases hb
theorem TV(m:Nat):∀(d:Nat) t x y b cx cy,FC P d t x y=some b→Rel w g x cx→Rel w g y cy→(Op.equalIn (d+m) t cx cy).run P w=.ok b w:=by
 intro d;induction d with
 |zero=>intro t x y b cx cy h;simp[FC]at h
 | succ d ih=>
  intro t x y b cx cy h hx hy;rw[show d+1+m=(d+m)+1 from by omega]
  unfold FC at h;split at h
  ·rename_i k0 k a k' b' hk
   cases hx;cases hy
   split at h
   ·rename_i hkk
    subst hkk;cases h
    exact run_equalIn_int w _ t _ _ _ _ (Xn hk)
   ·cases h
  ·rename_i hk
   cases hx;cases hy;cases h
   rw[run_equalIn_string w _ t _ _ (Gi hk)];simp
  ·rename_i hk
   cases hx;cases hy;cases h
   exact run_equalIn_bool' w _ t _ _ (Xo hk)
  ·rename_i xs ys
   split at h
   ·rename_i fs hfs
    obtain⟨h1,h2,h3⟩:=Zie hfs;have hx':=hx;have hy':=hy;cases hx;cases hy
    rw[run_equalIn_agg w _ t _ _ h1 h2];exact ZkS (d+m) (FC P d) (fun t x y b cx cy hb hx hy=>ih t x y b cx cy hb hx hy) hx' hy' _ _ _ h3 h
   ·cases h
  ·cases h
theorem ZkW{op:BinOp}{t:TypeId}{x y v:AV}{cx cy:Value}(ox oy:Operand)(h:EF P op t x y=some v)(hx:Rel w g x cx)(hy:Rel w g y cy):
  ∃cv,(do eqGuard op t ox oy cx cy;binOp op t cx cy:Sem Value).run P w=.ok cv w∧Rel w g v cv:=by
 unfold EF at h;split at h
 ·cases hx;cases hy
  rename_i k a k' b
  have hg:(eqGuard op t ox oy (.int k a) (.int k' b)).run P w=.ok () w:=by cases op<;>simp[eqGuard]
  simp only[Sem.run_bind,hg,Result.andThen_ok];split at h
  ·unfold Jt at h
   split at h
   ·rename_i h0
    cases h
    exact⟨_,by simp[binOp,Op.shift,show ¬b<0 from by omega],.it g _ _⟩
   ·cases h
  ·unfold G3 at h
   split at h
   ·rename_i h0
    cases h
    exact⟨_,by simp[binOp,Op.shift,show ¬b<0 from by omega],.it g _ _⟩
   ·cases h
  ·split at h
   ·rename_i hkk
    subst hkk;exact ZkN t h
   ·cases h
 ·cases hx;cases hy
  rename_i a b
  have hg:(eqGuard op t ox oy (.string ⟨a.toArray⟩) (.string ⟨b.toArray⟩)).run P w=.ok () w:=by cases op<;>simp[eqGuard]
  simp only[Sem.run_bind,hg,Result.andThen_ok];exact ZkE t h
 ·cases hx;cases hy
  rename_i a b
  have hg:(eqGuard op t ox oy (.bool a) (.bool b)).run P w=.ok () w:=by cases op<;>simp[eqGuard]
  simp only[Sem.run_bind,hg,Result.andThen_ok];split at h
  ·rename_i hk
   have hu:=Xo hk;have he:=run_equalIn_bool' w 9999 t a b hu;split at h;iterate 2
    ·cases h
     exact⟨_,by simp[binOp,Op.equal,Op.maxDepth,he],.bo g _⟩
   ·cases h
  ·cases h
 ·rename_i xs ys
  split at h
  ·cases h
  ·rename_i hgd
   have hx':=hx;have hy':=hy;cases hx;cases hy
   rename_i ax hnx h1x hrx ay hny h1y hry
   have hg:=run_eqGuard_agg w op t ox oy ax ay (by simpa using hgd)
   simp only[Sem.run_bind,hg,Result.andThen_ok];split at h
   ·obtain⟨b,hb,rfl⟩:=Option.map_eq_some_iff.1 h
    have :=TV 9994 6 t _ _ b _ _ hb hx' hy';refine⟨_,?_,.bo g _⟩
    rw[run_eql_struct,this];rfl
   ·obtain⟨b,hb,rfl⟩:=Option.map_eq_some_iff.1 h
    have :=TV 9994 6 t _ _ b _ _ hb hx' hy';refine⟨_,?_,.bo g _⟩
    rw[run_neq_struct,this];rfl
   ·cases h
 ·cases hx;cases hy
  rename_i l off hl hb _
  have hg:(eqGuard op t ox oy (.pointer (some ⟨g.pl l,off,none⟩)) (.pointer none)).run P w=.ok () w:=by cases op<;>simp[eqGuard]
  simp only[Sem.run_bind,hg,Result.andThen_ok];split at h
  ·rename_i hk
   obtain⟨e,hu⟩:=Xm hk;have he0:∀d,(Op.equalIn (d+1) t (.pointer (some ⟨g.pl l,off,none⟩)) (.pointer none)).run P w=.ok false w:=fun d=>by simp[Op.equalIn,run_underlying hu]
   have he:=he0 9999;split at h;iterate 2
    ·cases h
     exact⟨_,by simp[binOp,Op.equal,Op.maxDepth,he],.bo g _⟩
   ·cases h
  ·cases h
 ·cases hx;cases hy
  have hg:(eqGuard op t ox oy (.pointer none) (.pointer none)).run P w=.ok () w:=by cases op<;>simp[eqGuard]
  simp only[Sem.run_bind,hg,Result.andThen_ok];split at h
  ·rename_i hk
   obtain⟨e,hu⟩:=Xm hk;have he0:∀d,(Op.equalIn (d+1) t (.pointer none) (.pointer none)).run P w=.ok true w:=fun d=>by simp[Op.equalIn,run_underlying hu]
   have he:=he0 9999;split at h;iterate 2
    ·cases h
     exact⟨_,by simp[binOp,Op.equal,Op.maxDepth,he],.bo g _⟩
   ·cases h
  ·cases h
 ·cases h
end
end Pe
namespace Pe
open Go Go.RowKit
def u8(b:UInt8):AV:=.it .u8 (b.toNat:Int)
def bytesOf:List AV→Option (List UInt8)
 |[]=>some []
 |v::r=>match v,bytesOf r with
  |.it .u8 n,some l=>if 0≤n∧n<256 then some (UInt8.ofNat n.toNat::l)else none
  |_,_=>none
theorem ZfX(b:UInt8):UInt8.ofNat ((b.toNat:Int)).toNat=b:=by simp
theorem Mi(l:List UInt8):bytesOf (l.map u8)=some l:=by
 induction l with
 |nil=>rfl
 |cons b l ih=>
  have :=b.toNat_lt;simp only[List.map_cons,bytesOf,u8,ih];rw[if_pos (by omega),ZfX]
theorem ZI:∀{es:List AV} {l:List UInt8},bytesOf es=some l→es=l.map u8
 |[],l,h=>by simp[bytesOf]at h;subst h;rfl
 | v::r,l,h=>by
  simp only[bytesOf]at h;split at h
  ·rename_i n l' hl'
   split at h
   ·rename_i h0
    cases h
    simp only[List.map_cons,u8];rw[ZI hl']
    have:(UInt8.ofNat n.toNat).toNat=n.toNat:=by simp;omega
    rw[this,Int.toNat_of_nonneg h0.1]
   ·cases h
  ·cases h
theorem SH(l:List UInt8):Ak (l.map u8)=l.map u8:=by
 induction l with
 |nil=>rfl
 |cons b l ih=>simp only[List.map_cons,Ak,List.flatMap_cons,AV.cells,u8]at *;rw[ih];rfl
def Iv(op:UnOp)(x:AV):Option AV:=
 match op,x with
 |.not,.bo b=>some (.bo (!b))
 |.neg,.it k n=>some (.it k (k.wrap (0-n)))
 |.xor,.it k n=>some (.it k (Go.bits .xor k (if k.signed then -1 else k.max) n))
 |_,_=>none
def HL(P:Program)(s d:TypeId)(x:AV):Option AV:=
 match Ba P d,x with
 |.int k,.it _ n=>if Ba P s=.other then none else some (.it k (k.wrap n))
 |.str,.st l=>if Ba P s=.str then some (.st l)else none
 |.str,.sl _ es=>if Ba P s=.bytes then(bytesOf es).map .st else none
 |_,_=>none
def CB(x:Option AV)(d:Nat):Option Nat:=
 match x with
 |none=>some d
 |some (.it _ n)=>if 0≤n then some n.toNat else none
 |_=>none
def AH(sz:Nat)(es:List AV):Bool:=es.all fun v=>v.cells.length==sz
def Ic(m:Mode)(full:Bool):Mode:=match m,full with |.full,true=>.full|_,_=>.ro
def Ix(P:Program)(t:TypeId)(x:AV)(lo hi mx:Option AV):Option AV:=
 match x with
 | .st l=>if Ba P t=.str∧mx.isNone=true then
   match CB lo 0,CB hi l.length with
   |some a,some b=>if a≤b∧b≤l.length then some (.st ((l.take b).drop a))else none
   |_,_=>none
   else none
 | .sl m es=>match Bt P t,CB lo 0,CB hi es.length,mx with
  | some (_,sz,_),some a,some b,none=>if a≤b∧b≤es.length∧AH sz es=true then
    some (.sl (Ic m (b==es.length)) ((es.take b).drop a))else none
  |some (_,sz,_),some a,some b,some c=>match hi,CB (some c) 0 with
   |some _,some c=>if a≤b∧b≤c∧c≤es.length∧AH sz es=true then some (.sl (if c=b then .full else .ro) ((es.take b).drop a))else none
   |_,_=>none
  |_,_,_,_=>none
 |.ws l off n c=>match Bt P t,lo,CB hi n,mx with
  |some _,none,some b,none=>if b≤c then some (.ws l off b c)else none
  |_,_,_,_=>none
 |_=>none
section
variable {P:Program} {w:World} {g:Gh}
theorem ZkD{op:UnOp}{x v:AV}{cx:Value}(h:Iv op x=some v)(hx:Rel w g x cx):∃cv,(Op.unary op cx).run P w=.ok cv w∧Rel w g v cv:=by
 unfold Iv at h;split at h
 ·cases hx;cases h;exact⟨_,by simp[Op.unary],.bo g _⟩
 ·cases hx;cases h;exact⟨_,by simp[Op.unary,Op.intArith],.it g _ _⟩
 ·cases hx;cases h;exact⟨_,by simp only[Op.unary];rfl,.it g _ _⟩
 ·cases h
theorem ZgY{t:TypeId}(h:Ba P t≠.other):∃d,P.underlying t=some d:=by
 unfold Ba at h;cases hd:P.underlying t with
 |none=>rw[hd]at h;simp at h
 |some d=>exact⟨d,rfl⟩
theorem ZkT{s d:TypeId}{x v:AV}{cx:Value}(h:HL P s d x=some v)(hx:Rel w g x cx):∃cv,(convert s d cx).run P w=.ok cv w∧Rel w g v cv:=by
 unfold HL at h;split at h
 ·rename_i k _ n hk
  cases hx
  split at h
  ·cases h
  ·rename_i hs
   cases h
   obtain⟨ds,hds⟩:=ZgY hs;exact⟨_,by simp[convert,run_underlying hds,run_underlying (Xn hk),Conv.intToInt],.it g _ _⟩
 ·rename_i l hk
  cases hx
  split at h
  ·rename_i hs
   cases h
   exact⟨_,by simp[convert,run_underlying (Gi hs),run_underlying (Gi hk)],.st g _⟩
  ·cases h
 ·rename_i m es hk
  split at h
  ·rename_i hs
   obtain⟨l,hl,rfl⟩:=Option.map_eq_some_iff.1 h;obtain⟨e,he1,he2⟩:=ZgZ hs;have hes:=ZI hl;subst hes;cases hx with
   | sl _ _ _ A c sz cu hc hcm hsz hA h1 hr hm=>
    rw[List.length_map]at *;rw[SH]at *;have hcell:∀j (hj:j<l.length),cu j=.int .u8 (l[j].toNat:Int):=by
     intro j hj;have :=hr j (u8 l[j]) (by simp[List.getElem?_eq_getElem hj])
     simp only[u8]at this;generalize cu j=z at this;cases this
     rfl
    refine⟨.string ⟨l.toArray⟩,?_,.st g l⟩
    rcases Nat.eq_zero_or_pos l.length with h0|h0
    ·have hl0:l=[]:=List.eq_nil_of_length_eq_zero h0
     subst hl0;rcases A with _|ad
     ·rw[run_convert_bytes_string w s d e none _ c he1 he2 (Gi hk)]
      simp[Conv.bytesToString]
      rfl
     ·exact run_convert_bytes_back w s d e ad c [] he1 he2 (Gi hk) (fun j hj=>by simp at hj)
    ·obtain⟨b,o,rfl,hcells⟩:=hA h0
     refine run_convert_bytes_back w s d e ⟨b,o,none⟩ c l he1 he2 (Gi hk) (fun j hj=>?_)
     rw[Addr.add_lit,(hcells j (by simpa using hj)).2,hcell j hj]
  ·cases h
 ·cases h
theorem Em{sz:Nat}{es:List AV}(h:AH sz es=true):∀e∈es,e.cells.length=sz:=fun e he=>by simpa using (List.all_eq_true.1 h) e he
theorem Ft{sz:Nat}{es:List AV}(h:∀e∈es,e.cells.length=sz):(Ak es).length=es.length*sz:=by
 induction es with
 |nil=>simp[Ak]
 |cons e es ih=>
  simp only[Ak,List.flatMap_cons,List.length_append,List.length_cons]at *;rw[h e (by simp),ih (fun x hx=>h x (by simp[hx])),Nat.add_mul]
  omega
theorem SJ{sz:Nat}{es:List AV}(h:∀e∈es,e.cells.length=sz)(a:Nat):Ak (es.drop a)=(Ak es).drop (a*sz):=by
 induction es generalizing a with
 |nil=>simp[Ak]
 | cons e es ih=>
  cases a with
  |zero=>simp
  |succ a=>
   have h1:=h e (by simp)
   rw[List.drop_succ_cons,ih (fun x hx=>h x (by simp[hx]))]
   simp only[Ak,List.flatMap_cons];rw[Nat.add_mul,Nat.one_mul,Nat.add_comm,←List.drop_drop,List.drop_left' h1]
theorem Ya{sz:Nat}{es:List AV}(h:∀e∈es,e.cells.length=sz)(a:Nat):Ak (es.take a)=(Ak es).take (a*sz):=by
 induction es generalizing a with
 |nil=>simp[Ak]
 | cons e es ih=>
  cases a with
  |zero=>simp[Ak]
  |succ a=>
   have h1:=h e (by simp)
   rw[List.take_succ_cons];have :=ih (fun x hx=>h x (by simp[hx])) a
   simp only[Ak,List.flatMap_cons]at *;rw[this,Nat.add_mul,Nat.one_mul,Nat.add_comm,←h1,List.take_length_add_append]
theorem J9(xs ys:List AV):Ak (xs++ys)=Ak xs++Ak ys:=by simp[Ak]
theorem H5{k:IntKind}{i:Int}{y:Nat}{code:BoundsCode}(h0:0≤i)(h1:i.toNat≤y):(Instr.sliceBound (.int k i) y code).run P w=.ok i.toNat w:=by
 have:0≤i∧i≤y:=by omega
 simp[Instr.sliceBound,asIntOf,this]
def EU(w:World)(g:Gh):Option AV→Option Value→Prop
 |none,none=>True
 |some v,some cv=>Rel w g v cv
 |_,_=>False
theorem Kx{x:AV}{cx:Value}{d n:Nat}(h:CB (some x) d=some n)(hx:Rel w g x cx):∃k i,cx=.int k i∧0≤i∧n=i.toNat:=by
 unfold CB at h;split at h
 ·rename_i heq;cases heq
 ·rename_i k m heq
  cases heq
  cases hx
  split at h
  ·rename_i h0
   cases h
   exact⟨_,_,rfl,h0,rfl⟩
  ·cases h
 ·cases h
theorem PV{isS:Bool}{len cap a b:Nat}{lo hi:Option AV}{clo chi:Option Value}(ha:CB lo 0=some a)(hb:CB hi len=some b)(hl:EU w g lo clo)(hh:EU w g hi chi)
  (h1:a≤b)(h2:b≤cap):(Instr.sliceBounds isS len cap clo chi none).run P w=.ok (a,b,cap) w:=by
 cases lo<;>cases clo<;>simp only[EU]at hl<;>cases hi<;>cases chi<;>simp only[EU]at hh
 ·simp only[CB,Option.some.injEq]at ha hb
  subst ha;subst hb;simp[Instr.sliceBounds]
 ·simp only[CB,Option.some.injEq]at ha
  obtain⟨k,i,rfl,h0,rfl⟩:=Kx hb hh;subst ha;simp[Instr.sliceBounds,H5 h0 h2]
 ·simp only[CB,Option.some.injEq]at hb
  obtain⟨k,i,rfl,h0,rfl⟩:=Kx ha hl;subst hb;simp[Instr.sliceBounds,H5 h0 h1]
 ·obtain⟨k,i,rfl,h0,rfl⟩:=Kx ha hl
  obtain⟨k',i',rfl,h0',rfl⟩:=Kx hb hh;simp[Instr.sliceBounds,H5 h0 h1,H5 h0' h2]
theorem ZjU{isS:Bool}{len cap a b c:Nat}{lo:Option AV}{hi mx:AV}{clo:Option Value}{chi cmx:Value}(ha:CB lo 0=some a)(hb:CB (some hi) len=some b)(hc:CB (some mx) 0=some c)
  (hl:EU w g lo clo)(hh:Rel w g hi chi)(hm:Rel w g mx cmx)(h1:a≤b)(h2:b≤c)(h3:c≤cap):(Instr.sliceBounds isS len cap clo (some chi) (some cmx)).run P w=.ok (a,b,c) w:=by
 obtain⟨k,i,rfl,h0,rfl⟩:=Kx hb hh;obtain⟨k',i',rfl,h0',rfl⟩:=Kx hc hm;cases lo<;>cases clo<;>simp only[EU]at hl
 ·simp only[CB,Option.some.injEq]at ha
  subst ha;simp[Instr.sliceBounds,H5 h0 h2,H5 h0' h3]
 ·obtain⟨k2,i2,rfl,h02,rfl⟩:=Kx ha hl
  simp[Instr.sliceBounds,H5 h0 h2,H5 h0' h3,H5 h02 h1]
theorem Rel.sub{m m':Mode}{es:List AV}{A:Option Addr}{c sz a b c':Nat}(h:Rel w g (.sl m es) (.slice A es.length c))(hs:AH sz es=true)(h1:a≤b)(h2:b≤es.length)(h3:b≤c')(h4:c'≤c)
  (hm:m'=.ro∨(m'=.full∧c'=b)):Rel w g (.sl m' ((es.take b).drop a)) (.slice (if c'=a then A else A.map (·.add (a*sz))) (b-a) (c'-a)):=by
 have hsz':=Em hs;cases h with
 | sl _ _ _ _ _ sz0 cu hc hcm hsz hA h1' hr hm'=>
  have hlen:((es.take b).drop a).length=b-a:=by rw[List.length_drop,List.length_take,Nat.min_eq_left h2]
  have hfl:Ak ((es.take b).drop a)=((Ak es).take (b*sz)).drop (a*sz):=by
   rw[SJ (fun e he=>hsz' e (List.mem_of_mem_take he)),Ya hsz']
  have hget:∀j u,(Ak ((es.take b).drop a))[j]? = some u→(Ak es)[a*sz+j]? = some u:=by
   intro j u hu;rw[hfl,List.getElem?_drop,List.getElem?_take]at hu
   split at hu
   ·exact hu
   ·cases hu
  have hlt:∀j,j<(Ak ((es.take b).drop a)).length→a*sz+j<(Ak es).length:=by
   intro j hj;have :=hget j _ (List.getElem?_eq_getElem hj)
   exact(List.getElem?_eq_some_iff.1 this).1
  rw[←hlen];refine .sl g m' _ _ _ sz (fun j=>cu (a*sz+j)) (by omega) (by omega) (fun e he=>hsz' e (List.mem_of_mem_take (List.mem_of_mem_drop he))) (fun h0=>?_) (fun j hj=>h1' _ (hlt j hj)) (fun j u hu=>hr _ u (hget j u hu)) ?_
  ·obtain⟨bk,o,rfl,hcells⟩:=hA (by omega)
   refine⟨bk,o+a*sz,?_,fun j hj=>?_⟩
   ·rw[if_neg (by omega)]
    simp[Addr.add_lit]
   ·have :=hcells _ (hlt j hj)
    rw[Nat.add_assoc];exact this
  ·rcases hm with rfl|⟨rfl,rfl⟩
   ·trivial
   ·exact hlen.symm
theorem ZkF{t:TypeId}{x v:AV}{lo hi mx:Option AV}{cx:Value}{clo chi cmx:Option Value}(h:Ix P t x lo hi mx=some v)(hx:Rel w g x cx)(hl:EU w g lo clo)(hh:EU w g hi chi)(hm:EU w g mx cmx):
  ∃cv,(Instr.sliceAt t cx clo chi cmx).run P w=.ok cv w∧Rel w g v cv:=by
 unfold Ix at h;split at h
 ·rename_i l
  cases hx
  split at h
  ·rename_i hk
   obtain⟨hk,hmx⟩:=hk;have hmx:mx=none:=by simpa using hmx
   subst hmx;cases cmx<;>simp only[EU]at hm
   split at h
   ·rename_i a b ha hb
    split at h
    ·rename_i hab
     cases h
     have hs:(⟨l.toArray⟩:ByteArray).size=l.length:=by simp[ByteArray.size]
     have :=PV (P:=P) (isS:=false) (cap:=l.length) ha hb hl hh hab.1 hab.2;refine⟨.string ⟨((l.take b).drop a).toArray⟩,?_,.st g _⟩
     have e:(⟨l.toArray⟩:ByteArray).extract a b=⟨((l.take b).drop a).toArray⟩:=by
      apply ByteArray.ext
      simp[ByteArray.data_extract,List.drop_take]
     simp[Instr.sliceAt,Instr.slice,run_underlying (Gi hk),hs,this,e]
    ·cases h
   ·cases h
  ·cases h
 ·rename_i m es
  split at h
  ·rename_i ty sz ag a b h1 h2 h3
   split at h
   ·rename_i hab
    cases h
    obtain⟨hu,hse⟩:=Ep h1;cases cmx<;>simp only[EU]at hm
    have hx':=hx;cases hx with
    | sl _ _ _ A c sz0 cu hc hcm hsz hA h1' hr hm'=>
     have :=PV (P:=P) (isS:=true) (cap:=c) h2 h3 hl hh hab.1 (by omega)
     have hr:=Rel.sub (m':=Ic m (b==es.length)) (c':=c) hx' hab.2.2 hab.1 hab.2.1 (by omega) (Nat.le_refl _) (by
      cases m with
      | full=>
       by_cases hb:b=es.length
       ·subst hb
        exact .inr ⟨by simp[Ic],hm'⟩
       ·exact .inl (by simp[Ic,hb])
      |ro=>exact .inl rfl
      |own l=>exact .inl rfl)
     refine⟨_,?_,hr⟩
     simp[Instr.sliceAt,Instr.slice,run_underlying hu,this,run_sizeOf hse]
   ·cases h
  ·rename_i ty sz ag a b c h1 h2 h3
   split at h
   ·rename_i hi' c' hc'
    split at h
    ·rename_i hab
     cases h
     obtain⟨hu,hse⟩:=Ep h1;cases cmx<;>simp only[EU]at hm
     cases chi<;>simp only[EU]at hh
     have hx':=hx;cases hx with
     | sl _ _ _ A cap sz0 cu hc hcm hsz hA h1' hr hm'=>
      have :=ZjU (P:=P) (isS:=true) (cap:=cap) h2 h3 hc' hl hh hm hab.1 hab.2.1 (by omega)
      have hr:=Rel.sub (m':=if c'=b then .full else .ro) (c':=c') hx' hab.2.2.2 hab.1 (by omega) hab.2.1 (by omega) (by
       split
       ·exact .inr ⟨rfl,by assumption⟩
       ·exact .inl rfl)
      refine⟨_,?_,hr⟩
      simp[Instr.sliceAt,Instr.slice,run_underlying hu,this,run_sizeOf hse]
    ·cases h
   ·cases h
  ·cases h
 ·rename_i l off n c
  split at h
  ·rename_i q b h1 h3
   split at h
   ·rename_i hbc
    cases h
    obtain⟨ty,sz,ag⟩:=q;obtain⟨hu,hse⟩:=Ep h1;cases clo<;>simp only[EU]at hl
    cases cmx<;>simp only[EU]at hm
    cases hx with
    | ws _ _ _ _ _ hlt hb hc hm'=>
     have :=PV (P:=P) (w:=w) (g:=g) (isS:=true) (cap:=c) (lo:=none) (clo:=none) (a:=0) rfl h3 trivial hh (Nat.zero_le b) hbc;refine⟨.slice (some ⟨g.pl l,off,none⟩) b c,?_,.ws g l off b c hlt hb hbc hm'⟩
     by_cases h0:c=0
     ·subst h0
      simp[Instr.sliceAt,Instr.slice,run_underlying hu,this,run_sizeOf hse]
     ·have h0':¬0=c:=fun e=>h0 e.symm
      simp[Instr.sliceAt,Instr.slice,run_underlying hu,this,run_sizeOf hse,h0,h0',Addr.add_lit]
   ·cases h
  ·cases h
 ·cases h
end
end Pe
namespace Pe
open Go Go.RowKit
def AV.solid:AV→Bool
 |.junk=>false
 |.tup _=>false
 |_=>true
def AI(w:World)(g:Gh)(cs:List AV)(arr:Array Value):Prop:=
 arr.size=cs.length∧(∀v∈arr.toList,v.oneCell'=true) ∧ ∀(j:Nat) u v,cs[j]? = some u→arr[j]? = some v→Rel w g u v
theorem AI.le{w w':World}{g g':Gh}{cs:List AV}{arr:Array Value}(h:AI w g cs arr)(hl:Le w g w' g'):AI w' g' cs arr:=
 ⟨h.1,h.2.1,fun j u v hu hv=>(h.2.2 j u v hu hv).le hl⟩
theorem Rel.one{w:World}{g:Gh}{v:AV}{cv:Value}(h:Rel w g v cv)(hs:v.solid=true)(hc:∀cs,v≠.agg cs):cv.oneCell'=true∧v.cells=[v]∧cv.cells = #[cv]:=by
 cases h<;>first|(exact⟨rfl,rfl,rfl⟩)|(simp[AV.solid]at hs;done)|(exact absurd rfl (hc _))|skip
 rename_i h
 refine⟨h,rfl,?_⟩
 cases cv<;>first|rfl|(simp[Value.oneCell']at h)
theorem PQ{w:World}{g:Gh}{v:AV}{cv:Value}(h:Rel w g v cv)(hs:v.solid=true):AI w g v.cells cv.cells:=by
 by_cases hc:∃cs,v=.agg cs
 ·obtain⟨cs,rfl⟩:=hc
  cases h with |agg _ _ arr hn h1 hr=>exact⟨hn,h1,hr⟩
 ·obtain⟨h1,h2,h3⟩:=h.one hs (fun cs e=>hc ⟨cs,e⟩)
  rw[h2,h3];refine⟨rfl,fun u hu=>?_,fun j u z hu hz=>?_⟩
  ·simp only[List.mem_cons,List.not_mem_nil,or_false]at hu
   rw[hu];exact h1
  ·cases j with
   |zero=>simp at hu hz;rw[←hu,←hz];exact h
   |succ j=>simp at hu
theorem Zaz{w:World}{g:Gh}{cs:List AV}{arr:Array Value}(h:AI w g cs arr):Rel w g (.agg cs) (.agg arr):=.agg g cs arr h.1 h.2.1 h.2.2
def Bc(cs:List AV)(off:Nat)(us:List AV):List AV:=cs.take off++us++cs.drop (off+us.length)
theorem NU{cs us:List AV}{off:Nat}(h:off+us.length≤cs.length):(Bc cs off us).length=cs.length:=by
 simp only[Bc,List.length_append,List.length_take,List.length_drop];omega
theorem TR{cs us:List AV}{off j:Nat}(h:off+us.length≤cs.length):(Bc cs off us)[j]? = if off≤j∧j<off+us.length then us[j-off]? else cs[j]? :=by
 have hl:(cs.take off).length=off:=by simp;omega
 unfold Bc;rw[List.append_assoc];by_cases h1:j<off
 ·rw[List.getElem?_append_left (by omega),List.getElem?_take_of_lt h1,if_neg (by omega)]
 ·rw[List.getElem?_append_right (by omega),hl]
  by_cases h2:j<off+us.length
  ·rw[List.getElem?_append_left (by omega),if_pos ⟨by omega,h2⟩]
  ·rw[List.getElem?_append_right (by omega),if_neg (by omega),List.getElem?_drop]
   congr 1
   omega
theorem X4(off:Nat):∀(vs:List Value) (k:Nat) (arr:Array Value),off+k+vs.length≤arr.size →
  let r:=(vs.zipIdx k).foldl (fun cs (p:Value×Nat)=>cs.setIfInBounds (off+p.2) p.1) arr
  r.size=arr.size ∧ ∀j:Nat,r[j]? = if off+k≤j∧j<off+k+vs.length then vs[j-(off+k)]? else arr[j]?
 |[],k,arr,h=>by
  refine⟨rfl,fun j=>?_⟩
  rw[if_neg (by simp)]
  rfl
 | v::vs,k,arr,h=>by
  have hlt:off+k<arr.size:=by simp at h;omega
  obtain⟨h1,h2⟩:=X4 off vs (k+1) (arr.setIfInBounds (off+k) v) (by simp at h ⊢;omega)
  simp only[List.zipIdx_cons,List.foldl_cons];refine⟨by rw[h1];simp,fun j=>?_⟩
  rw[h2 j];simp only[List.length_cons];by_cases hj:j=off+k
  ·subst hj
   rw[if_neg (by omega),if_pos (by omega)]
   simp[hlt]
  ·by_cases hj2:off+(k+1)≤j∧j<off+(k+1)+vs.length
   ·rw[if_pos hj2,if_pos (by omega),show j-(off+k)=(j-(off+(k+1)))+1 from by omega]
    simp
   ·rw[if_neg hj2,if_neg (by omega),Array.getElem?_setIfInBounds_ne (by omega)]
theorem ZdW{w:World}{g:Gh}{cs us:List AV}{arr ua:Array Value}(h:AI w g cs arr)(hu:AI w g us ua){off:Nat}(hle:off+us.length≤cs.length):
  AI w g (Bc cs off us) (ua.zipIdx.foldl (fun cs (p:Value×Nat)=>cs.setIfInBounds (off+p.2) p.1) arr):=by
 rw[←Array.foldl_toList,Array.toList_zipIdx];have hul:ua.toList.length=us.length:=by simpa using hu.1
 obtain⟨h1,h2⟩:=X4 off ua.toList 0 arr (by rw[hul,h.1];omega)
 generalize List.foldl (fun cs (p:Value×Nat)=>cs.setIfInBounds (off+p.2) p.1) arr (ua.toList.zipIdx 0)=r at *
 have hg:∀j:Nat,r[j]? = if off≤j∧j<off+us.length then ua[j-off]? else arr[j]? :=by
  intro j;have :=h2 j;rw[hul]at this;simpa using this
 refine⟨by rw[h1,h.1,NU hle],fun v hv=>?_,fun j u v hju hjv=>?_⟩
 ·obtain⟨j,hj⟩:=List.mem_iff_getElem?.1 hv
  have hj':r[j]? = some v:=by simpa using hj
  rw[hg j]at hj';split at hj'
  ·exact hu.2.1 v (List.mem_iff_getElem?.2 ⟨_,by simpa using hj'⟩)
  ·exact h.2.1 v (List.mem_iff_getElem?.2 ⟨_,by simpa using hj'⟩)
 ·rw[TR hle]at hju
  rw[hg j]at hjv;split at hju
  ·rename_i hc
   rw[if_pos hc]at hjv;exact hu.2.2 _ u v hju hjv
  ·rename_i hc
   rw[if_neg hc]at hjv;exact h.2.2 _ u v hju hjv
def FB(pl:List (Nat×Nat))(cs:List AV):List (Nat×AV)→Option (List AV)
 |[]=>some cs
 |(i,v)::rest=>
  match pl[i]? with
  |some (off,sz)=>if v.solid=true∧v.cells.length=sz∧off+sz≤cs.length then FB pl (Bc cs off v.cells) rest else none
  |none=>none
theorem NV{w:World}{g:Gh}(pl:List (Nat×Nat))(place:Nat→Option (Nat×Nat))(hpl:∀(i:Nat) p,pl[i]? = some p→place i=some p):
  ∀(ops:List (Nat×Operand)) (e:Af) (ρ:Operand→Value) (cs cs':List AV) (arr:Array Value),AI w g cs arr→(∀p∈ops,Rel w g (ev e p.2) (ρ p.2)) →
  FB pl cs (ops.map fun p=>(p.1,ev e p.2))=some cs' → ∃arr',Instr.fill place arr (ops.map fun p=>(p.1,ρ p.2))=some arr'∧AI w g cs' arr'
 |[],e,ρ,cs,cs',arr,hc,hr,h=>by
  simp only[List.map_nil,FB,Option.some.injEq]at h;subst h;exact⟨arr,rfl,hc⟩
 | (i,x)::rest,e,ρ,cs,cs',arr,hc,hr,h=>by
  simp only[List.map_cons,FB]at h;split at h
  ·rename_i off sz hi
   split at h
   ·rename_i hcond
    obtain⟨h1,h2,h3⟩:=hcond;have hu:=PQ (hr (i,x) (by simp)) h1
    have hs:=ZdW hc hu (off:=off) (by have h2':(ev e (i,x).2).cells.length=sz:=h2;omega)
    obtain⟨arr',h4,h5⟩:=NV pl place hpl rest e ρ _ cs' _ hs (fun p hp=>hr p (by simp[hp])) h
    refine⟨arr',?_,h5⟩
    have e1:(ρ x).cells.size=sz:=by rw[hu.1,h2]
    have e2:arr.size=cs.length:=hc.1;simp only[List.map_cons,Instr.fill,hpl i _ hi,e1,ne_eq,not_true_eq_false,decide_false,Bool.false_or,e2,gt_iff_lt,decide_eq_true_eq];rw[if_neg (by omega)]
    exact h4
   ·cases h
  ·cases h
def BF(P:Program)(t:TypeId):Option (List AV):=
 match P.info? t with
 |some i=>match i.zero with
  |some z=>if z.cells.toList.all (·.oneCell')then some (z.cells.toList.map Dk)else none
  |none=>none
 |none=>none
theorem KG{P:Program}{t:TypeId}{cs:List AV}(h:BF P t=some cs):∃i z,P.info? t=some i∧i.zero=some z∧(∀v∈z.cells.toList,v.oneCell'=true)∧cs=z.cells.toList.map Dk:=by
 unfold BF at h;split at h
 ·rename_i i h1
  split at h
  ·rename_i z h2
   split at h
   ·rename_i h3
    cases h
    exact⟨i,z,h1,h2,fun v hv=>by simpa using (List.all_eq_true.1 h3) v hv,rfl⟩
   ·cases h
  ·cases h
 ·cases h
theorem Tj(w:World)(g:Gh)(arr:Array Value)(h:∀v∈arr.toList,v.oneCell'=true):AI w g (arr.toList.map Dk) arr:=by
 refine⟨by simp,h,fun j u v hu hv=>?_⟩
 rw[List.getElem?_map]at hu
 have:arr.toList[j]? = some v:=by simpa using hv
 rw[this]at hu;simp only[Option.map_some,Option.some.injEq]at hu;subst hu;exact PM w g v
def strOf(P:Program)(t:TypeId):Option (List (Nat×Nat)×List AV):=
 match P.underlying t,BF P t with
 |some (.struct fs),some z=>(fs.toList.mapM fun f=>(P.info? f.type).map fun i=>(f.offset,i.size)).map fun pl=>(pl,z)
 |some (.array n e),some z=>(P.info? e).map fun i=>((List.range n).map fun k=>(k*i.size,i.size),z)
 |_,_=>none
theorem ZkU{P:Program}{w:World}{g:Gh}{t:TypeId}{pl:List (Nat×Nat)}{z cs:List AV}(hs:strOf P t=some (pl,z))(parts:Array (Nat×Operand))(e:Af)(ρ:Operand→Value)
  (hr:∀p∈parts.toList,Rel w g (ev e p.2) (ρ p.2))(h:FB pl z (parts.toList.map fun p=>(p.1,ev e p.2))=some cs):
  ∃cv,(Instr.build t (parts.map fun(i,x)=>(i,ρ x))).run P w=.ok cv w∧Rel w g (.agg cs) cv:=by
 unfold strOf at hs;split at hs
 ·rename_i fs z' hu hz
  obtain⟨pl',hpl,hp⟩:=Option.map_eq_some_iff.1 hs;cases hp
  obtain⟨i,zv,h1,h2,h3,rfl⟩:=KG hz;obtain⟨arr',h4,h5⟩:=NV pl (pl.toArray[·]?) (fun i p hp=>by simpa using hp) parts.toList e ρ _ cs zv.cells (Tj w g _ h3) hr h
  refine⟨.agg arr',run_build w t _ arr' ?_,Zaz h5⟩
  simp only[Program.built,h1,hu,h2,hpl];rw[←h4];simp
 ·rename_i n el z' hu hz
  obtain⟨ie,hie,hp⟩:=Option.map_eq_some_iff.1 hs;cases hp
  obtain⟨i,zv,h1,h2,h3,rfl⟩:=KG hz;obtain⟨arr',h4,h5⟩:=NV _ (fun k=>some (k*ie.size,ie.size)) (fun k p hp=>by
   rw[List.getElem?_map]at hp
   obtain⟨a,ha,rfl⟩:=Option.map_eq_some_iff.1 hp;have :=(List.getElem?_eq_some_iff.1 ha)
   obtain⟨hlt,he⟩:=this;simp at he
   rw[he]) parts.toList e ρ _ cs zv.cells (Tj w g _ h3) hr h
  refine⟨.agg arr',run_build w t _ arr' ?_,Zaz h5⟩
  simp only[Program.built,h1,hu,h2,hie];rw[←h4];simp
 ·cases hs
def IB(x:AV):Option AV:=
 match x with
 |.ptr l o=>some (.ptr l o)
 |.pst v o=>some (.pst v o)
 |.wr l n (some o)=>some (.wr l n (some o))
 |.fn (.method _) _ _=>none
 |.fn f a b=>some (.fn f a b)
 |_=>none
def IH(f:Option (Nat×Nat×Bool))(x:AV):Option AV:=
 match f,x with
 |some (o,sz,_),.ptr l off=>if sz=0 then none else some (.ptr l (off+o))
 |some (o,sz,_),.pst v off=>if sz=0 then none else some (.pst v (off+o))
 |some (o,sz,_),.wr l n (some off)=>if sz=0 then none else some (.wr l n (some (off+o)))
 |_,_=>none
def II(f:Option (Nat×Nat×Bool))(x:AV):Option AV:=
 match f,x with
 |some (o,sz,ag),.agg cs=>apart cs o sz ag
 |_,_=>none
def IF(P:Program)(t:TypeId)(x i:AV):Option AV:=
 match x,i with
 |.sl _ es,.it _ n=>match Bt P t with
  |some (_,sz,_)=>if 0≤n then(match es[n.toNat]? with |some v=>if AH sz es=true then some (.pst v 0)else none|none=>none)else none
  |none=>none
 |.ptr l off,.it _ n=>match NQ P t with
  |some (len,sz,_)=>if 0≤n∧n<len then some (.ptr l (off+n.toNat*sz))else none
  |none=>none
 |.pst v off,.it _ n=>match NQ P t with
  |some (len,sz,_)=>if 0≤n∧n<len then some (.pst v (off+n.toNat*sz))else none
  |none=>none
 |.ws l off m _,.it _ n=>match Bt P t with
  |some (_,sz,_)=>if 0≤n∧n<m then some (.ptr l (off+n.toNat*sz))else none
  |none=>none
 |.wr l m none,.it _ n=>match Bt P t with
  |some (_,sz,_)=>if 0≤n∧n<m then some (.wr l m (some (n.toNat*sz)))else none
  |none=>none
 |_,_=>none
def IG(P:Program)(t:TypeId)(x i:AV):Option AV:=
 match x,i with
 |.st l,.it _ n=>if Ba P t=.str∧0≤n then(l[n.toNat]?).map u8 else none
 |.agg cs,.it _ n=>match NQ P t with
  |some (len,sz,ag)=>if 0≤n∧n<len then apart cs (n.toNat*sz) sz ag else none
  |none=>none
 |_,_=>none
def Gz(P:Program)(b:Builtin)(ts:Array TypeId)(args:List AV):Option AV:=
 match b,args with
 |.len,[.st l]=>match ts[0]? with
  |some t=>if Ba P t=.str then some (.it .i64 l.length)else none
  |none=>none
 | .len,[.sl _ es]=>match ts[0]? with
  |some t=>match Bt P t with
   |some _=>some (.it .i64 es.length)
   |none=>none
  |none=>none
 | .len,[.ws _ _ n _]=>match ts[0]? with
  |some t=>match Bt P t with
   |some _=>some (.it .i64 n)
   |none=>none
  |none=>none
 | .len,[.wr _ n none]=>match ts[0]? with
  |some t=>match Bt P t with
   |some _=>some (.it .i64 n)
   |none=>none
  |none=>none
 |.min,[.it k a,.it _ b]=>some (.it k (if b<a then b else a))
 |.max,[.it k a,.it _ b]=>some (.it k (if b>a then b else a))
 |_,_=>none
def Fy(P:Program)(e:Af):Op→Option AV
 |.move x=>some (ev e x)
 |.assign x=>some (ev e x)
 |.pick c a b=>match ev e c with
  |.bo t=>some (if t then ev e a else ev e b)
  |_=>none
 |.nilCheck x=>IB (ev e x)
 |.binOp op t x y _=>EF P op t (ev e x) (ev e y)
 |.unOp op _ x=>Iv op (ev e x)
 |.convert s d x=>HL P s d (ev e x)
 |.makeFunc f a b=>some (.fn f (a.toList.map (ev e)) (b.toList.map (ev e)))
 |.slice t x lo hi mx=>Ix P t (ev e x) (lo.map (ev e)) (hi.map (ev e)) (mx.map (ev e))
 |.fieldAddr t x f=>IH (Ar P t f) (ev e x)
 |.field t x f=>II (Ar P t f) (ev e x)
 |.indexAddr t x i=>IF P t (ev e x) (ev e i)
 |.index t x i=>IG P t (ev e x) (ev e i)
 |.extract t i=>match ev e t with
  |.tup vs=>vs[i]?
  |_=>none
 |.build t parts=>match strOf P t with
  |some (pl,z)=>(FB pl z (parts.toList.map fun p=>(p.1,ev e p.2))).map .agg
  |none=>none
 |.call c=>match c.callee with
  |.builtin b=>Gz P b c.argTypes (c.args.toList.map (ev e))
  |_=>none
 |_=>none
section
variable {P:Program} {w:World} {g:Gh}
def Zk4:Value→Prop
 |.pointer none=>False
 |.nilIface=>False
 |.nilFunc=>False
 |.func (.method _) _ _=>False
 |_=>True
theorem ZkJ{x v:AV}{cx:Value}(h:IB x=some v)(hx:Rel w g x cx):v=x∧Zk4 cx:=by
 unfold IB at h;split at h
 ·cases h;cases hx;exact⟨rfl,trivial⟩
 ·cases h;cases hx;exact⟨rfl,trivial⟩
 ·cases h;cases hx;exact⟨rfl,trivial⟩
 ·cases h
 ·rename_i f a b hne
  cases h
  cases hx with
  |fn _ _ _ _ fa ca hf hc hrf hrc=>
   refine⟨rfl,?_⟩
   cases f with
   |method nm=>exact(hne _ rfl).elim
   |_=>trivial
 ·cases h
theorem O8{α β:Type}{f:α→β}{l:List α}{b:β}(h:l.map f=[b]):∃x,l=[x]∧f x=b:=by
 match l,h with
 |[x],h=>exact⟨x,rfl,by simpa using h⟩
theorem W1{α β:Type}{f:α→β}{l:List α}{b c:β}(h:l.map f=[b,c]):∃x y,l=[x,y]∧f x=b∧f y=c:=by
 match l,h with
 |[x,y],h=>exact⟨x,y,rfl,by simpa using h⟩
theorem Iu(b o n:Nat):(⟨b,o,none⟩:Addr).add n=⟨b,o+n,none⟩:=Addr.add_lit b o n
theorem ZkR{t f:Nat}{x v:AV}{cx:Value}(h:IH (Ar P t f) x=some v)(hx:Rel w g x cx):∃cv,(Instr.fieldAt t cx f).run P w=.ok cv w∧Rel w g v cv:=by
 unfold IH at h;split at h
 ·rename_i o sz ag l off hf
  obtain⟨fs,fd,h1,h2,h3,h4⟩:=Pr hf;cases hx
  rename_i hl hb
  split at h
  ·cases h
  ·rename_i h0
   cases h
   refine⟨_,?_,.ptr g l (off+o) hl hb⟩
   simp[Instr.fieldAt,run_underlying h1,h2,Instr.sureAddr,fieldPlace,run_sizeOf h4,h0,Iu,h3]
 ·rename_i o sz ag x' off hf
  obtain⟨fs,fd,h1,h2,h3,h4⟩:=Pr hf;cases hx with
  | pst _ _ _ b o' cu hA h1' hr=>
   split at h
   ·cases h
   ·rename_i h0
    cases h
    refine⟨_,?_,.pst g x' (off+o) b o' cu hA h1' hr⟩
    simp[Instr.fieldAt,run_underlying h1,h2,Instr.sureAddr,fieldPlace,run_sizeOf h4,h0,Iu,h3,Nat.add_assoc]
 ·rename_i o sz ag l n off hf
  obtain⟨fs,fd,h1,h2,h3,h4⟩:=Pr hf;cases hx with
  | wp _ _ _ _ b o' hl hb hw hA=>
   split at h
   ·cases h
   ·rename_i h0
    cases h
    refine⟨_,?_,.wp g l n (off+o) b (o'+o) hl hb hw ?_⟩
    ·simp[Instr.fieldAt,run_underlying h1,h2,Instr.sureAddr,fieldPlace,run_sizeOf h4,h0,Iu,h3]
    ·rcases hA with hA|⟨rfl,rfl⟩
     ·exact .inl hA
     ·exact .inr ⟨rfl,rfl⟩
 ·cases h
theorem ZkQ{t f:Nat}{x v:AV}{cx:Value}(h:II (Ar P t f) x=some v)(hx:Rel w g x cx):∃cv,(Instr.field t cx f).run P w=.ok cv w∧Rel w g v cv:=by
 unfold II at h;split at h
 ·rename_i o sz ag cs hf
  obtain⟨fs,fd,h1,h2,h3,h4⟩:=Pr hf;cases hx with |agg _ _ arr hn h1' hr=>
  obtain⟨cv,hcv,hrel⟩:=P1 hn h1' hr h4 h;refine⟨cv,?_,hrel⟩
  simp[Instr.field,run_underlying h1,h2,asAgg,h3,hcv]
 ·cases h
theorem Yb{sz:Nat}{es:List AV}(h:∀e∈es,e.cells.length=sz){i:Nat}{v:AV}(hv:es[i]? = some v){j:Nat}{u:AV}(hu:v.cells[j]? = some u):(Ak es)[i*sz+j]? = some u:=by
 have h1:=SJ h i;have hi:=(List.getElem?_eq_some_iff.1 hv).1
 rw[←List.getElem?_drop,←h1]
 have:es.drop i=v::es.drop (i+1):=by
  rw[List.drop_eq_getElem_cons hi];rw[(List.getElem?_eq_some_iff.1 hv).2]
 rw[this];simp only[Ak,List.flatMap_cons];rw[List.getElem?_append_left (List.getElem?_eq_some_iff.1 hu).1]
 exact hu
theorem ZkP{t:TypeId}{x i v:AV}{cx ci:Value}(h:IF P t x i=some v)(hx:Rel w g x cx)(hi:Rel w g i ci):∃cv,(Instr.indexAt t cx ci).run P w=.ok cv w∧Rel w g v cv:=by
 unfold IF at h;split at h
 ·rename_i m es k n
  split at h
  ·rename_i e sz ag hs
   obtain⟨hu,hse⟩:=Ep hs;split at h
   ·rename_i h0
    split at h
    ·rename_i v' hv
     split at h
     ·rename_i hall
      cases h
      cases hi
      have hlt:=(List.getElem?_eq_some_iff.1 hv).1
      have hmem:=List.mem_iff_getElem?.2 ⟨_,hv⟩;have hsz':=Em hall;cases hx with
      | sl _ _ _ A c sz0 cu hc hcm hsz hA h1 hr hm=>
       obtain⟨b,o,rfl,hcell⟩:=hA (by omega)
       have hat:∀j,j<v'.cells.length→n.toNat*sz+j<(Ak es).length:=by
        intro j hj;have :=Yb hsz' hv (List.getElem?_eq_getElem hj)
        exact(List.getElem?_eq_some_iff.1 this).1
       refine⟨.pointer (some ⟨b,o+n.toNat*sz+0,none⟩),?_,.pst g v' 0 b (o+n.toNat*sz) (fun j=>cu (n.toNat*sz+j)) (fun j hj=>?_) (fun j hj=>h1 _ (hat j hj)) (fun j u hju=>hr _ u (Yb hsz' hv hju))⟩
       ·have hn:0≤n∧n<(es.length:Int):=by omega
        simp[Instr.indexAt,asIntOf,run_underlying hu,hn,run_sizeOf hse,Iu]
       ·have :=hcell _ (hat j hj)
        rw[Nat.add_assoc];exact this
     ·cases h
    ·cases h
   ·cases h
  ·cases h
 ·rename_i l off k n
  split at h
  ·rename_i len sz ag hs
   obtain⟨e,hu,hse⟩:=TP hs;split at h
   ·rename_i hn
    cases h
    cases hx;cases hi
    rename_i hl hb
    refine⟨_,?_,.ptr g l (off+n.toNat*sz) hl hb⟩
    simp[Instr.indexAt,asIntOf,run_underlying hu,Instr.sureAddr,hn,run_sizeOf hse,Iu]
   ·cases h
  ·cases h
 ·rename_i x' off k n
  split at h
  ·rename_i len sz ag hs
   obtain⟨e,hu,hse⟩:=TP hs;split at h
   ·rename_i hn
    cases h
    cases hi
    cases hx with
    |pst _ _ _ b o' cu hA h1' hr=>
     refine⟨_,?_,.pst g x' (off+n.toNat*sz) b o' cu hA h1' hr⟩
     simp[Instr.indexAt,asIntOf,run_underlying hu,Instr.sureAddr,hn,run_sizeOf hse,Iu,Nat.add_assoc]
   ·cases h
  ·cases h
 ·rename_i l off m c k n
  split at h
  ·rename_i e sz ag hs
   obtain⟨hu,hse⟩:=Ep hs;split at h
   ·rename_i hn
    cases h
    cases hx;cases hi
    rename_i hl hb hc hm
    refine⟨_,?_,.ptr g l (off+n.toNat*sz) hl hb⟩
    simp[Instr.indexAt,asIntOf,run_underlying hu,hn,run_sizeOf hse,Iu]
   ·cases h
  ·cases h
 ·rename_i l m k n
  split at h
  ·rename_i e sz ag hs
   obtain⟨hu,hse⟩:=Ep hs;split at h
   ·rename_i hn
    cases h
    cases hi
    cases hx with
    | wr _ _ _ c A hl hb hw hc hm h0 hA=>
     obtain⟨b,o,rfl⟩:=h0 (by omega)
     refine⟨.pointer (some ⟨b,o+n.toNat*sz,none⟩),?_,.wp g l m (n.toNat*sz) _ _ hl hb hw ?_⟩
     ·simp[Instr.indexAt,asIntOf,run_underlying hu,hn,run_sizeOf hse,Iu]
     ·rcases hA with hA|⟨rfl,hA⟩
      ·exact .inl hA
      ·have :=hA (by omega)
       simp only[Option.some.injEq,Addr.mk.injEq]at this;exact .inr ⟨this.1,by rw[this.2.1,Nat.zero_add]⟩
   ·cases h
  ·cases h
 ·cases h
theorem ZkO{t:TypeId}{x i v:AV}{cx ci:Value}(h:IG P t x i=some v)(hx:Rel w g x cx)(hi:Rel w g i ci):∃cv,(Instr.index t cx ci).run P w=.ok cv w∧Rel w g v cv:=by
 unfold IG at h;split at h
 ·rename_i l k n
  split at h
  ·rename_i hk
   obtain⟨hk,h0⟩:=hk;obtain⟨b,hb,rfl⟩:=Option.map_eq_some_iff.1 h;cases hx;cases hi
   refine⟨.int .u8 (b.toNat:Int),?_,.it g _ _⟩
   have hlt:=(List.getElem?_eq_some_iff.1 hb).1
   have e:(⟨l.toArray⟩:ByteArray)[n.toNat]? = some b:=by
    rw[getElem?_pos _ _ (by show n.toNat<ByteArray.size _;simpa[ByteArray.size] using hlt)]
    rw[←hb,List.getElem?_eq_getElem hlt]
    rfl
   simp[Instr.index,asIntOf,run_underlying (Gi hk),h0,e]
  ·cases h
 ·rename_i cs k n
  split at h
  ·rename_i len sz ag hs
   obtain⟨e,hu,hse⟩:=TP hs;split at h
   ·rename_i hn
    cases hi
    cases hx with |agg _ _ arr hn' h1' hr=>
    obtain⟨cv,hcv,hrel⟩:=P1 hn' h1' hr hse h;refine⟨cv,?_,hrel⟩
    simp[Instr.index,asIntOf,run_underlying hu,hn,run_sizeOf hse,hcv]
   ·cases h
  ·cases h
 ·cases h
theorem ZkV{b:Builtin}{ts:Array TypeId}(ty:TypeId)(cn:Array Bool){args:List Operand}{e:Af}{ρ:Operand→Value}{v:AV}(h:Gz P b ts (args.map (ev e))=some v)(hr:∀x∈args,Rel w g (ev e x) (ρ x)):
  ∃cv,(builtin b ts ty cn (args.map ρ).toArray).run P w=.ok (.value cv) w∧Rel w g v cv:=by
 unfold Gz at h;split at h
 ·rename_i l hargs
  split at h
  ·rename_i t ht
   split at h
   ·rename_i hk
    cases h
    obtain⟨x,rfl,hx1⟩:=O8 hargs;have hx:=hr x (by simp)
    rw[hx1]at hx;generalize hc:ρ x=cx at hx;cases hx
    have hs:(⟨l.toArray⟩:ByteArray).size=l.length:=by simp[ByteArray.size]
    refine⟨.int .i64 (l.length:Int),?_,.it g _ _⟩
    simp only[builtin,Builtin.len_,ht,hc,List.map_cons,List.map_nil,List.getElem?_toArray,List.getElem?_cons_zero,Sem.run_bind,run_underlying (Gi hk),Result.andThen_ok,goInt,hs,Sem.run_pure]
   ·cases h
  ·cases h
 ·rename_i m es hargs
  split at h
  ·rename_i t ht
   split at h
   ·rename_i p hk
    obtain⟨e',sz,ag⟩:=p;cases h
    obtain⟨hu,hse⟩:=Ep hk;obtain⟨x,rfl,hx1⟩:=O8 hargs;have hx:=hr x (by simp)
    rw[hx1]at hx;generalize hc:ρ x=cx at hx;cases hx
    refine⟨.int .i64 (es.length:Int),?_,.it g _ _⟩
    simp only[builtin,Builtin.len_,ht,hc,List.map_cons,List.map_nil,List.getElem?_toArray,List.getElem?_cons_zero,Sem.run_bind,run_underlying hu,Result.andThen_ok,goInt,Sem.run_pure]
   ·cases h
  ·cases h
 ·rename_i l off n c hargs
  split at h
  ·rename_i t ht
   split at h
   ·rename_i p hk
    obtain⟨e',sz,ag⟩:=p;cases h
    obtain⟨hu,hse⟩:=Ep hk;obtain⟨x,rfl,hx1⟩:=O8 hargs;have hx:=hr x (by simp)
    rw[hx1]at hx;generalize hc:ρ x=cx at hx;cases hx
    refine⟨.int .i64 (n:Int),?_,.it g _ _⟩
    simp only[builtin,Builtin.len_,ht,hc,List.map_cons,List.map_nil,List.getElem?_toArray,List.getElem?_cons_zero,Sem.run_bind,run_underlying hu,Result.andThen_ok,goInt,Sem.run_pure]
   ·cases h
  ·cases h
 ·rename_i l n hargs
  split at h
  ·rename_i t ht
   split at h
   ·rename_i p hk
    obtain⟨e',sz,ag⟩:=p;cases h
    obtain⟨hu,hse⟩:=Ep hk;obtain⟨x,rfl,hx1⟩:=O8 hargs;have hx:=hr x (by simp)
    rw[hx1]at hx;generalize hc:ρ x=cx at hx;cases hx
    refine⟨.int .i64 (n:Int),?_,.it g _ _⟩
    simp only[builtin,Builtin.len_,ht,hc,List.map_cons,List.map_nil,List.getElem?_toArray,List.getElem?_cons_zero,Sem.run_bind,run_underlying hu,Result.andThen_ok,goInt,Sem.run_pure]
   ·cases h
  ·cases h
 ·rename_i k a k' b hargs
  cases h
  obtain⟨x,y,rfl,hargs1,hargs2⟩:=W1 hargs;have hx:=hr x (by simp)
  have hy:=hr y (by simp)
  rw[hargs1]at hx;rw[hargs2]at hy;generalize hc:ρ x=cx at hx;generalize hd:ρ y=cy at hy;cases hx;cases hy
  refine⟨_,?_,.it g _ _⟩
  simp[builtin,Builtin.min_,Builtin.min2,hc,hd]
 ·rename_i k a k' b hargs
  cases h
  obtain⟨x,y,rfl,hargs1,hargs2⟩:=W1 hargs;have hx:=hr x (by simp)
  have hy:=hr y (by simp)
  rw[hargs1]at hx;rw[hargs2]at hy;generalize hc:ρ x=cx at hx;generalize hd:ρ y=cy at hy;cases hx;cases hy
  refine⟨_,?_,.it g _ _⟩
  simp[builtin,Builtin.max_,Builtin.max2,hc,hd]
 ·cases h
theorem NY{e:Af}{ρ:Operand→Value}{x:Option Operand}(h:∀y,x=some y→Rel w g (ev e y) (ρ y)):EU w g (x.map (ev e)) (x.map ρ):=by
 cases x with
 |none=>trivial
 |some y=>exact h y rfl
theorem Zka{o:Oper}{e:Af}{ρ:Operand→Value}{v:AV}(h:Fy P e o.op=some v)(hr:∀x,x∈o.op.operands.toList→Rel w g (ev e x) (ρ x)):
  ∃cv,(execOp ρ o).run P w=.ok (.value cv) w∧Rel w g v cv:=by
 unfold execOp;cases ho:o.op<;>rw[ho]at h hr<;>simp only[Fy]at h<;>try (cases h;done)
 case move x=>cases h;exact⟨_,by simp,hr x (by simp[Op.operands])⟩
 case assign x=>cases h;exact⟨_,by simp,hr x (by simp[Op.operands])⟩
 case pick c a b=>
  split at h
  ·rename_i t hc
   cases h
   have h1:=hr c (by simp[Op.operands])
   rw[hc]at h1;generalize hcc:ρ c=cc at h1;cases h1
   cases t
   ·exact⟨ρ b,by simp[hcc,asBool],hr b (by simp[Op.operands])⟩
   ·exact⟨ρ a,by simp[hcc,asBool],hr a (by simp[Op.operands])⟩
  ·cases h
 case nilCheck x=>
  have hx:=hr x (by simp[Op.operands])
  obtain⟨rfl,h2⟩:=ZkJ h hx;refine⟨ρ x,?_,hx⟩
  dsimp only;generalize ρ x=cx at h2 ⊢;cases cx with
  |pointer a=>cases a with
   |none=>exact False.elim h2
   |some a=>rfl
  |func f b c=>cases f with
   |method nm=>exact False.elim h2
   |_=>rfl
  |nilIface=>exact False.elim h2
  |nilFunc=>exact False.elim h2
  |_=>rfl
 case binOp op t x y yt=>
  obtain⟨cv,h1,h2⟩:=ZkW (P:=P) x y h (hr x (by simp[Op.operands])) (hr y (by simp[Op.operands]))
  exact⟨cv,by rw[Sem.run_bind,h1];rfl,h2⟩
 case unOp op t x=>
  obtain⟨cv,h1,h2⟩:=ZkD (P:=P) h (hr x (by simp[Op.operands]))
  exact⟨cv,by simp[h1],h2⟩
 case convert s d x=>
  obtain⟨cv,h1,h2⟩:=ZkT h (hr x (by simp[Op.operands]))
  exact⟨cv,by simp[h1],h2⟩
 case makeFunc f a b=>
  cases h
  refine⟨.func f (a.map ρ) (b.map ρ),by simp[Instr.makeFunc],.fn g f _ _ _ _ (by simp) (by simp) (fun j u v hu hv=>?_) (fun j u v hu hv=>?_)⟩
  ·rw[List.getElem?_map]at hu
   obtain⟨x,hx,rfl⟩:=Option.map_eq_some_iff.1 hu;have hx':a[j]? = some x:=by simpa using hx
   rw[Array.getElem?_map,hx']at hv
   cases hv
   refine hr x ?_
   simp only[Op.operands,Array.toList_append,List.mem_append];exact .inl (List.mem_iff_getElem?.2 ⟨j,hx⟩)
  ·rw[List.getElem?_map]at hu
   obtain⟨x,hx,rfl⟩:=Option.map_eq_some_iff.1 hu;have hx':b[j]? = some x:=by simpa using hx
   rw[Array.getElem?_map,hx']at hv
   cases hv
   refine hr x ?_
   simp only[Op.operands,Array.toList_append,List.mem_append];exact .inr (List.mem_iff_getElem?.2 ⟨j,hx⟩)
 case slice t x lo hi mx=>
  obtain⟨cv,h1,h2⟩:=ZkF (P:=P) h (hr x (by simp[Op.operands])) (NY fun y hy=>hr y (by subst hy;simp[Op.operands])) (NY fun y hy=>hr y (by subst hy;simp[Op.operands])) (NY fun y hy=>hr y (by subst hy;simp[Op.operands]))
  exact⟨cv,by simp[h1],h2⟩
 case fieldAddr t x f=>
  obtain⟨cv,h1,h2⟩:=ZkR h (hr x (by simp[Op.operands]))
  exact⟨cv,by simp[h1],h2⟩
 case field t x f=>
  obtain⟨cv,h1,h2⟩:=ZkQ h (hr x (by simp[Op.operands]))
  exact⟨cv,by simp[h1],h2⟩
 case indexAddr t x i=>
  obtain⟨cv,h1,h2⟩:=ZkP h (hr x (by simp[Op.operands])) (hr i (by simp[Op.operands]))
  exact⟨cv,by simp[h1],h2⟩
 case index t x i=>
  obtain⟨cv,h1,h2⟩:=ZkO h (hr x (by simp[Op.operands])) (hr i (by simp[Op.operands]))
  exact⟨cv,by simp[h1],h2⟩
 case extract t i=>
  split at h
  ·rename_i vs ht
   have hx:=hr t (by simp[Op.operands])
   rw[ht]at hx;generalize hct:ρ t=ct at hx;cases hx with |tup _ _ arr hn hr'=>
   have hlt:=(List.getElem?_eq_some_iff.1 h).1
   have hv:arr[i]? = some arr[i]:=Array.getElem?_eq_getElem (by omega)
   exact⟨arr[i],by simp[Instr.extract,hct,hv],hr' i v _ h hv⟩
  ·cases h
 case build t parts=>
  split at h
  ·rename_i pl z hs
   obtain⟨cs,h1,rfl⟩:=Option.map_eq_some_iff.1 h;obtain⟨cv,h2,h3⟩:=ZkU hs parts e ρ (fun p hp=>hr p.2 (by simp only[Op.operands];exact List.mem_map.2 ⟨p,hp,rfl⟩)) h1
   exact⟨cv,by simp[h2],h3⟩
  ·cases h
 case call c=>
  split at h
  ·rename_i b hb
   obtain⟨cv,h1,h2⟩:=ZkV o.type (c.args.map fun |.const _=>true|_=>false) h (fun x hx=>hr x (by simp[Op.operands,Call.operands,hb,hx]))
   refine⟨cv,?_,h2⟩
   have e1:(c.args.toList.map ρ).toArray=c.args.map ρ:=by rw[←Array.toList_map,Array.toArray_toList]
   rw[e1]at h1;show Sem.run P (do let d ←resolve ρ c o.type;invoke d.target d.args) w=_
   simp only[resolve,hb,Sem.run_bind,Sem.run_pure,Result.andThen_ok,invoke];exact h1
  ·cases h
end
end Pe
end
end Go.Proofs.YtchpmmjmimaigaaGreatDoor
