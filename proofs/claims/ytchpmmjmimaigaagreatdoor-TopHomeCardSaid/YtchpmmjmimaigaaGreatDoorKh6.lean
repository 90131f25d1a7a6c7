import Derived.Test.YtchpmmjmimaigaaGreatDoorKh5
set_option linter.unusedSectionVars false
set_option linter.unusedVariables false
set_option linter.unusedSimpArgs false
namespace Go.Proofs.YtchpmmjmimaigaaGreatDoor
section
namespace Pe
open Go Go.RowKit
variable [Tab]
structure AO where
 dst:Option Nat
 op:Op
 gd:Option (Option Nat×Bool)
inductive CC where
 |skip|rfunc (N:Nat) (g:Operand) (ps:Array Tmp) (asn bdy:Code)|reg (l:List AO)|seq (a b:CC)|cond (c:Operand) (t f:CC)|block (id:Nat) (b:CC)|loop (b:CC)|exit (id:Nat)|ret|bad
inductive AX where
 |norm|exit (id:Nat)|ret
def Dh(ops:Array Oper)(o:Oper):AO:=⟨o.dst,o.op,match o.guard with
 |none=>none
 |some (j,want)=>some ((ops[j]?).bind (·.dst),want)⟩
def Cu(k:Option Nat):Code→CC
 |.skip=>.skip
 |.label _=>.skip
 |.region _ ops _=>.reg (ops.toList.map (Dh ops))
 |.seq a b=>.seq (Cu k a) (Cu k b)
 |.cond c a b=>.cond c (Cu k a) (Cu k b)
 |.block id b=>.block id (Cu k b)
 |.loop b=>.loop (Cu k b)
 |.exit id=>.exit id
 |.ret=>.ret
 |.rangeFunc g ps asn bdy=>match k with
  |some N=>.rfunc N g ps asn bdy
  |none=>.bad
 |_=>.bad
abbrev Cm:Code→CC:=Cu none
def DN:Code→Bool
 |.seq a b=>DN a&&DN b
 |.cond _ a b=>DN a&&DN b
 |.block _ b=>DN b
 |.loop b=>DN b
 |.rangeFunc _ _ _ _=>false
 |_=>true
def Bb(N:Nat)(e:Af):List AV:=(List.range N).map e
def FA(gd:Option (Option Nat×Bool))(e:Af):Option Bool:=
 match gd with
 |none=>some true
 |some (none,_)=>some false
 |some (some d,want)=>match e d with
  |.bo b=>some (b==want)
  |.tup []=>some false
  |_=>none
def Bs(P:Program)(pf rf:List FuncId):List AO→Af→Ae→(Af→Ae→Prop)→Prop
 |[],e,S,K=>K e S
 |o::rest,e,S,K=>B4 (FA o.gd e) fun b=>D1 b (Bd P pf rf o.op e S fun v S'=>Bs P pf rf rest (put e o.dst v) S' K) (Bs P pf rf rest (put e o.dst (.tup [])) S K)
def Aq(N0:Nat)(e:Af)(S:Ae)(e':Af)(S':Ae):Prop:=
 ∀(N:Nat) (w0:World) (g0:Gh) (a:Act) (w:World),g0.nid=N0→AP N w0 g0 e S a w→AP N w0 g0 e' S' a w
def CR(Q:AX→Af→Ae→Prop)(next:Af→Ae→Prop):AX→Af→Ae→Prop
 |.norm=>next
 |x=>Q x
def H7(N0:Nat)(I:Nat→Af→Ae→Prop)(n:Nat)(e:Af)(S:Ae):Prop:=∃n' e' S',n'<n∧Aq N0 e S e' S'∧I n' e' S'
def GC(N0:Nat)(B:(AX→Af→Ae→Prop)→Af→Ae→Prop)(Q:AX→Af→Ae→Prop)(e:Af)(S:Ae):Prop:=
 ∃I:Nat→Af→Ae→Prop,(∃n e' S',Aq N0 e S e' S'∧I n e' S') ∧ ∀n e S,I n e S→B (CR Q (H7 N0 I n)) e S
def EE(id:Nat)(Q:AX→Af→Ae→Prop):AX→Af→Ae→Prop
 |.exit i=>if i=id then Q .norm else Q (.exit i)
 |x=>Q x
def N3(P:Program)(N:Nat)(g:Operand)(ps:Array Tmp)(asn bdy:Code)(K:Af→Ae→Prop)(e:Af)(S:Ae):Prop:=
 match ev e g with
 |.fn (.func f) fa ca=>∃v S' U,S'.length=S.length∧(∀b D fn,AC P f (fa++[.fn (.yield b) [] []]++ca) (S++[.loop b D fn (Bb N e) ps asn bdy .ready]) v (S'++.loop b D fn (Bb N e) ps asn bdy .ready::U))∧K e (S'++.dead::U)
 |_=>False
def AW(P:Program)(pf rf:List FuncId)(N0:Nat):CC→(AX→Af→Ae→Prop)→Af→Ae→Prop
 |.skip,Q,e,S=>Q .norm e S
 |.reg l,Q,e,S=>Bs P pf rf l e S (Q .norm)
 |.seq a b,Q,e,S=>AW P pf rf N0 a (CR Q (AW P pf rf N0 b Q)) e S
 |.cond c t f,Q,e,S=>match ev e c with
  |.bo b=>D1 b (AW P pf rf N0 t Q e S) (AW P pf rf N0 f Q e S)
  |_=>False
 |.block id b,Q,e,S=>AW P pf rf N0 b (EE id Q) e S
 |.loop b,Q,e,S=>GC N0 (AW P pf rf N0 b) Q e S
 |.exit id,Q,e,S=>Q (.exit id) e S
 |.ret,Q,e,S=>Q .ret e S
 |.rfunc N g ps asn bdy,Q,e,S=>∃e1 S1,Aq N0 e S e1 S1∧N3 P N g ps asn bdy (Q .norm) e1 S1
 |.bad,_,_,_=>False
def Dx(P:Program)(pf rf:List FuncId)(N:Nat):Code→Bool
 |.region _ ops draw=>D3 N ops&&(!draw||R5 (Bh P pf rf) ops)
 |.seq a b=>Dx P pf rf N a&&Dx P pf rf N b
 |.cond _ a b=>Dx P pf rf N a&&Dx P pf rf N b
 |.block _ b=>Dx P pf rf N b
 |.loop b=>Dx P pf rf N b
 |.rangeFunc _ _ asn bdy=>DN asn&&DN bdy
 |_=>true
def EW(N:Nat)(w0:World)(g0:Gh)(Q:AX→Af→Ae→Prop):Exit→Act→World→Prop
 |.normal,a,w=>∃e S,AP N w0 g0 e S a w∧Q .norm e S
 |.exit id,a,w=>∃e S,AP N w0 g0 e S a w∧Q (.exit id) e S
 |.ret,a,w=>∃e S,AP N w0 g0 e S a w∧Q .ret e S
 |_,_,_=>False
section
variable {P:Program} {N N0:Nat} {w0:World} {g0:Gh} {pf rf:List FuncId}
theorem F4{ops:Array Oper}{Q:Af→Ae→Prop}:∀(l:List Oper) (e:Af) (S:Ae),Bs P pf rf (l.map (Dh ops)) e S Q→Dn P (Bh P pf rf) ops Q l e S
 |[],e,S,h=>h
 | o ::rest,e,S,h=>by
  simp only[List.map_cons,Bs]at h;have hg:FA (Dh ops o).gd e=Cp ops o e:=by
   unfold Dh Cp;cases hgd:o.guard with
   |none=>rfl
   | some p=>
    obtain⟨j,want⟩:=p;simp only[FA,NT];cases hd:(ops[j]?).bind (·.dst)with
    |none=>cases want<;>rfl
    |some d=>
     simp only
     cases he:e d with
     |bo b=>cases b<;>cases want<;>rfl
     |tup vs=>cases vs<;>cases want<;>rfl
     |_=>rfl
  rw[hg]at h;unfold Dn;obtain⟨b,hb,h⟩:=C8 h
  ·simp only[hb]
   cases b with
   |true=>
    obtain⟨v,S',h1,h2⟩:=N4 (o:=o) (h.1 rfl);exact⟨v,S',h1,F4 rest _ _ h2⟩
   |false=>exact F4 rest _ _ (h.2 rfl)
theorem Le.below{w w':World}(g:Gh)(h:Below w.heap.size w w'):Le w g w' g:=
 ⟨fun b o v _ hv=>by rw[World.cell?_of_block (w:=w) (w':=w') (h.block b (World.block_lt_of_cell? w _ hv))];exact hv,fun _ _ _ h _=>h,Nat.le_refl _,fun _ _=>⟨rfl,.inl ⟨rfl,rfl,rfl⟩⟩,fun b me c h h'=>⟨h,by rw[Below.block ‹_› b (Array.getElem?_eq_some_iff.1 h').1];exact h'⟩⟩
theorem WF.below{w w':World}{g:Gh}{S:Ae}(hw:WF w g S)(h:Below w.heap.size w w'):WF w' g S:=by
 refine⟨hw.nid,fun l o hl=>?_,hw.disj,fun l b hl hb=>?_,hw.tab.le (Le.below g h)⟩
 ·have hlt:l<g.nid:=by rw[hw.nid];exact(List.getElem?_eq_some_iff.1 hl).1
  exact(hw.obj l o hl).keep (Le.below g h) rfl rfl rfl rfl rfl (fun _ _=>rfl) (fun b hb=>h.block b (hw.lt l b hlt hb))
 ·have :=hw.lt l b hl hb
  have :=h.size;omega
theorem Evo.below{w w':World}(g:Gh)(h:Below w.heap.size w w'):Evo w g w' g:=
 ⟨Le.below g h,h.os,h.tape,h.output,h.size,fun b hb _=>h.block b hb,fun _ _ hl hb _=>⟨hl,hb⟩,fun _ _ _=>rfl⟩
theorem MA{F:Fence}{n:Nat}{P:Program}{Q:Exit→Act→World→Prop}{a:Act}{w:World}{c:Code}(I:Nat→Act→World→Prop)(n₀:Nat)(h₀:I n₀ a w)
  (round:∀n' a w,I n' a w→c.wpIn F n P (Exit.then (fun a' w'=>∃n'',n''<n'∧I n'' a' w') Q) a w):(Code.loop c).wpIn F n P Q a w:=by
 refine wpIn_loop (fun a w=>∃n,I n a w) (fun a w=>leastOf (fun n=>I n a w)) ⟨n₀,h₀⟩ ?_
 intro a w hI;refine Go.wpIn_mono (round _ a w (leastOf_spec hI).1) ?_
 intro e a' w' hq;cases e with
 |normal=>
  obtain⟨n',hlt,hI'⟩:=hq;exact show(∃n,I n a' w')∧leastOf (fun n=>I n a' w')<leastOf (fun n=>I n a w)from⟨⟨n',hI'⟩,Nat.lt_of_le_of_lt ((leastOf_spec ⟨n',hI'⟩).2 n' hI') hlt⟩
 |exit id=>exact hq
 |goto l=>exact hq
 |ret=>exact hq
 |panic ch=>exact hq
 |outgrown=>exact hq
theorem CZ.le{w w':World}{g g':Gh}{e:Af}{a:Act}(h:CZ w g e a)(hl:Le w g w' g'):CZ w' g' e a:=fun t=>(h t).le hl
theorem Yx{w:World}{g:Gh}{e:Af}{a:Act}(h:CZ w g e a):∀(j:Nat) u x,(Bb a.tmps.size e)[j]? = some u→a.tmps[j]? = some x→Rel w g u x:=by
 intro j u x hu hx;unfold Bb at hu;rw[List.getElem?_map]at hu
 obtain⟨y,hy,rfl⟩:=Option.map_eq_some_iff.1 hu;have hj:y=j:=by
  rw[List.getElem?_range (by have :=(List.getElem?_eq_some_iff.1 hy).1;simpa using this)]at hy
  simpa using hy.symm
 subst hj;have :=h y;rw[Array.getD_eq_getD_getElem?,hx]at this;exact this
theorem Zlc{g:Operand}{ps:Array Tmp}{asn bdy:Code}{Q:AX→Af→Ae→Prop}{e:Af}{S:Ae}{a:Act}{w:World}(hc:AP N w0 g0 e S a w)(h:N3 P N g ps asn bdy (Q .norm) e S):
  (Code.rangeFunc g ps asn bdy).wpIn (wR none) 0 P (EW N w0 g0 Q) a w:=by
 obtain⟨hsz,_,gh,hw,he,hD⟩:=hc;unfold N3 at h;split at h
 ·rename_i f fa ca hf
  obtain⟨v,S',U,hlen,hac,hK⟩:=h;refine wpIn_rangeFunc fun fn _=>?_
  have hgv:=Ka he g;rw[hf]at hgv;generalize hcf:a.eval g=cf at hgv;cases hgv with
  | fn _ _ _ _ fav cav hfs hcs hrf hrc=>
   have hB:Below w.heap.size w (w.alloc (.deferred (some []))):=(Below.refl _ w).alloc (Nat.le_refl _) _;have hw1:=hw.below hB;have hE1:=Evo.below gh hB;have hsz1:(w.alloc (.deferred (some []))).heap.size=w.heap.size+1:=by simp
   let r:Loop:={ state:=.ready,pending:=none,fn,tmps:=a.tmps,params:=ps,assign:=asn,body:=bdy,defers:=w.heap.size }
   have hpush:=hw1.alloc_push (.loop r) false 0 0 0 (o:=.loop (w.heap.size+1) w.heap.size fn (Bb N e) ps asn bdy .ready) (by
    refine⟨by simp[Gh.push],by simp[Gh.push],by simp[Gh.push],by simp[Gh.push],a.tmps,?_,by simp[Bb,hsz],?_⟩
    ·simp only[Gh.push,if_true]
     exact World.alloc_heap_new _ _
    ·have :=Yx (he.le (hE1.toLe.trans (Le.push_new _ gh (.loop r) false 0 0 0)))
     rw[hsz]at this;exact this)
   obtain⟨hw2,hE2⟩:=hpush;have hE:=hE1.trans hE2;have hfb:(Instr.enterLoop fn a.tmps ps asn bdy (wR none).round).run P w=.ok (w.heap.size+1,[{ target:=.collected w.heap.size,args:= #[] }]) ((w.alloc (.deferred (some []))).alloc (.loop r)):=run_enterLoop_outer fn a.tmps ps asn bdy;have hres:∀w',(resolve a.eval (rangeCall g (w.heap.size+1)) 0).run P w'=.ok { target:=.fn (.func f) cav,args:=fav ++ #[.func (.yield (w.heap.size+1)) #[] #[]] } w':=fun w'=>by
    simp only[resolve,rangeCall,hcf,Deferred.ofValue,Sem.run_bind,Sem.run_pure,Result.andThen_ok,List.map_toArray,List.map_cons,List.map_nil];rfl
   have hac':=hac (w.heap.size+1) w.heap.size fn;refine⟨w.heap.size+1,_,_,_,_,f,fav ++ #[.func (.yield (w.heap.size+1)) #[] #[]]++cav,(w.alloc (.deferred (some []))).alloc (.loop r),hfb,hres _,fun _ _=>trivial,?_,fun q=>by simp[wR,Fence.wide]at q,?_⟩
   ·simp only[invoke]
    exact QX hac'.can _ _
   ·have hyl:∀w' g',Rel w' g' (.fn (.yield (w.heap.size+1)) [] []) (.func (.yield (w.heap.size+1)) #[] #[]):=fun w' g'=>.fn g' (.yield (w.heap.size+1)) [] [] #[] #[] rfl rfl (by simp) (by simp)
    have hargs:FZ ((w.alloc (.deferred (some []))).alloc (.loop r)) (gh.push (w.alloc (.deferred (some []))).heap.size false 0 0 0) (fa++[.fn (.yield (w.heap.size+1)) [] []]++ca) (fav ++ #[.func (.yield (w.heap.size+1)) #[] #[]]++cav):=by
     refine⟨by simp[hfs,hcs];omega,fun j u x hu hx=>?_⟩
     have hx':(fav.toList++[.func (.yield (w.heap.size+1)) #[] #[]]++cav.toList)[j]? = some x:=by
      rw[←hx,←Array.getElem?_toList]
      simp
     have l1:fav.toList.length=fa.length:=by simpa using hfs
     rw[List.append_assoc,List.getElem?_append]at hu hx'
     rw[l1]at hx';split at hu
     ·rename_i h1
      rw[if_pos h1]at hx';exact(hrf j u x hu (by simpa using hx')).le hE.toLe
     ·rename_i h1
      rw[if_neg h1]at hx';cases hj:j-fa.length with
      |zero=>
       rw[hj]at hu hx';simp at hu hx'
       subst hu;subst hx';exact hyl _ _
      |succ m=>
       rw[hj]at hu hx';simp at hu hx'
       exact(hrc m u x hu (by simpa using hx')).le hE.toLe
    refine(Tw (hac'.run _ _ _ hw2 hargs) none _).mono ?_
    rintro r' w3 ⟨cv,g3,rfl,hw3,_,hE3⟩
    have hl3:(S'++.loop (w.heap.size+1) w.heap.size fn (Bb N e) ps asn bdy .ready::U)[S.length]? = some (.loop (w.heap.size+1) w.heap.size fn (Bb N e) ps asn bdy .ready):=by
     rw[←hlen,List.getElem?_append_right (Nat.le_refl _),Nat.sub_self];rfl
    obtain⟨b1,b2,b3,b4,tm,b5,b6,b7⟩:=hw3.obj _ _ hl3;rw[b4]at b5;refine⟨none,_,run_endLoop b5 (by simp),?_⟩
    have hput:=hw3.put (o:=.dead) (ob:=.loop { state:=.exhausted,pending:=none,fn,tmps:=tm,params:=ps,assign:=asn,body:=bdy,defers:=w.heap.size }) (List.getElem?_eq_some_iff.1 hl3).1 b2 b3 trivial
    obtain⟨hw4,hE4⟩:=hput;rw[b4]at hw4 hE4;have E3:(S'++SObj.loop (w.heap.size+1) w.heap.size fn (Bb N e) ps asn bdy .ready::U).set S.length .dead=S'++.dead::U:=by
     rw[←hlen,List.set_append_right _ _ (Nat.le_refl _),Nat.sub_self];rfl
    rw[E3]at hw4;have hEall:=(hE.trans hE3).trans hE4;refine⟨e,S'++.dead::U,⟨hsz,trivial,g3,hw4,he.le hEall.toLe,?_⟩,hK⟩
    have hD':=hD.trans hEall;refine⟨hD'.toEvo,fun d hd=>?_,?_⟩
    ·simp only[List.cons_append,List.nil_append,List.mem_cons]at hd
     rcases hd with rfl|hd
     ·have hno:∀l,l<(gh.push (w.alloc (.deferred (some []))).heap.size false 0 0 0).nid → ¬(gh.push (w.alloc (.deferred (some []))).heap.size false 0 0 0).own l w.heap.size:=by
       intro l hl ho;simp only[Gh.push,hsz1]at hl ho;split at ho
       ·omega
       ·have :=hw.lt l _ (by omega) ho
        omega
      have hlt2:w.heap.size<((w.alloc (.deferred (some []))).alloc (.loop r)).heap.size:=by simp;omega
      have hE34:=hE3.trans hE4;refine⟨w.heap.size,rfl,hD.size,Nat.lt_of_lt_of_le hlt2 hE34.size,?_,fun l hl ho=>?_⟩
      ·exact(hE34.old _ hlt2 hno).trans ((hE2.old _ (by simp) (fun l hl ho=>by have :=hw.lt l _ hl ho;omega)).trans (World.alloc_heap_new _ _))
      ·have :=hE34.own l _ hl ho hlt2
       exact hno l this.1 this.2
     ·exact hD'.defs d hd
    ·simp only[List.cons_append,List.nil_append,List.map_cons,List.nodup_cons]
     refine⟨fun hm=>?_,hD.nodup⟩
     obtain⟨d,hd,hdt⟩:=List.mem_map.1 hm;obtain⟨b,q1,_,q3,_⟩:=hD.defs d hd;rw[hdt]at q1;cases q1
     omega
 ·exact h.elim
theorem Zbd(k:Option Nat)(hk:∀M,k=some M→M=N)(ro:Option Nat)(hm:P.follows .mixedOrders=true)(hN0:g0.nid=N0):∀(c:Code) (Q:AX→Af→Ae→Prop) (e:Af) (S:Ae) (a:Act) (w:World),Dx P pf rf N c=true→(ro=none∨DN c=true)→AP N w0 g0 e S a w→AW P pf rf N0 (Cu k c) Q e S→c.wpIn (wR ro) 0 P (EW N w0 g0 Q) a w:=by
 intro c;induction c with
 |skip=>intro Q e S a w _ _ hc h;exact wpIn_skip ⟨e,S,hc,h⟩
 |label l=>intro Q e S a w _ _ hc h;exact wpIn_label ⟨e,S,hc,h⟩
 |ret=>intro Q e S a w _ _ hc h;exact wpIn_ret ⟨e,S,hc,h⟩
 |exit id=>intro Q e S a w _ _ hc h;exact wpIn_exit ⟨e,S,hc,h⟩
 |region id ops draw=>
  intro Q e S a w hok hrf hc h;simp only[Dx,Bool.and_eq_true]at hok;simp only[Cu,AW]at h;have hL:=F4 ops.toList e S h;have hQ:∀e S a w,AP N w0 g0 e S a w→Q .norm e S→EW N w0 g0 Q .normal a w:=fun e S a w hc hq=>⟨e,S,hc,hq⟩
  cases draw with
  |false=>exact OO hok.1 hQ hc hL ro
  |true=>exact ZeZ hm (by simpa using hok.2) hok.1 hQ hc hL ro
 |seq x y ihx ihy=>
  intro Q e S a w hok hrf hc h;simp only[Dx,Bool.and_eq_true]at hok;simp only[Cu,AW]at h;refine wpIn_seq (Go.wpIn_mono (ihx _ e S a w hok.1 (hrf.imp id fun q=>(by simpa[DN] using q:_∧_).1) hc h) ?_)
  intro ex a' w' hq;cases ex with
  |normal=>obtain⟨e',S',hc',h'⟩:=hq;exact ihy Q e' S' a' w' hok.2 (hrf.imp id fun q=>(by simpa[DN] using q:_∧_).2) hc' h'
  |exit id=>exact hq
  |ret=>exact hq
  |_=>exact hq.elim
 | cond c x y ihx ihy=>
  intro Q e S a w hok hrf hc h;simp only[Dx,Bool.and_eq_true]at hok;simp only[Cu,AW]at h;split at h
  ·rename_i b hb
   have hcb:a.eval c=.bool b:=by
    obtain⟨_,_,g,_,h4,_⟩:=hc;have :=Ka h4 c;rw[hb]at this;cases hv:a.eval c<;>rw[hv]at this<;>cases this
    rfl
   refine wpIn_cond_split hcb (fun ht=>ihx Q e S a w hok.1 (hrf.imp id fun q=>(by simpa[DN] using q:_∧_).1) hc (h.1 ht)) (fun hf=>ihy Q e S a w hok.2 (hrf.imp id fun q=>(by simpa[DN] using q:_∧_).2) hc (h.2 hf))
  ·exact h.elim
 | block id c ih=>
  intro Q e S a w hok hrf hc h;simp only[Cu,AW]at h;refine wpIn_block (Go.wpIn_mono (ih _ e S a w hok hrf hc h) ?_)
  intro ex a' w' hq;cases ex with
  |normal=>exact hq
  |exit i=>
   obtain⟨e',S',hc',h'⟩:=hq;simp only[EE]at h';simp only[Exit.inBlock];by_cases hi:i=id
   ·rw[if_pos hi]at h' ⊢;exact⟨e',S',hc',h'⟩
   ·rw[if_neg hi]at h' ⊢;exact⟨e',S',hc',h'⟩
  |ret=>exact hq
  |_=>exact hq.elim
 | loop c ih=>
  intro Q e S a w hok hrf hc h;simp only[Cu,AW]at h;obtain⟨I,⟨n,e',S',hwk,hI⟩,hround⟩:=h;refine MA (fun n a w=>∃e S,AP N w0 g0 e S a w∧I n e S) n ⟨e',S',hwk N w0 g0 a w hN0 hc,hI⟩ ?_
  rintro n a w ⟨e,S,hc,hI⟩
  refine Go.wpIn_mono (ih _ e S a w hok hrf hc (hround n e S hI)) ?_
  intro ex a' w' hq;cases ex with
  |normal=>
   obtain⟨e1,S1,hc1,n',e2,S2,hlt,hwk',hI'⟩:=hq;exact⟨n',hlt,e2,S2,hwk' N w0 g0 a' w' hN0 hc1,hI'⟩
  |exit i=>exact hq
  |ret=>exact hq
  |_=>exact hq.elim
 | rangeFunc g ps asn bdy _ _=>
  intro Q e S a w hok hrf hc h;rcases hrf with rfl|hrf
  ·simp only[Cu]at h
   cases k with
   |none=>exact h.elim
   |some M=>
    have hMN:=hk M rfl;subst hMN;obtain⟨e1,S1,hwk,h⟩:=h;exact Zlc (hwk M w0 g0 a w hN0 hc) h
  ·cases hrf
 |_=>intro Q e S a w _ _ _ h;exact h.elim
theorem N2{c:Code}(ro:Option Nat)(hrf:ro=none∨DN c=true)(hm:P.follows .mixedOrders=true)(hN0:g0.nid=N0)(Q:AX→Af→Ae→Prop)(e:Af)(S:Ae)(a:Act)(w:World)(hok:Dx P pf rf N c=true)(hc:AP N w0 g0 e S a w)(h:AW P pf rf N0 (Cm c) Q e S):c.wpIn (wR ro) 0 P (EW N w0 g0 Q) a w:=
 Zbd none (fun _ e=>by cases e) ro hm hN0 c Q e S a w hok hrf hc h
end
def Da(P:Program)(rs:List ResultVar)(e:Af)(S:Ae):Option (List AV):=
 match rs with
 |[]=>some []
 |.tmp t::rest=>(Da P rest e S).map (e t :: ·)
 |.cell a t::rest=>match D7 (AJ P t) S (e a),Da P rest e S with
  |some v,some vs=>some (v::vs)
  |_,_=>none
def Ea:List AV→AV
 |[v]=>v
 |vs=>.tup vs
def BH(args:List AV):Af:=fun t=>args.getD t .junk
def Fin(P:Program)(rs:List ResultVar)(N0:Nat)(v:AV)(S':Ae)(e:Af)(S:Ae):Prop:=
 ∃e1 S1 vs κ,Aq N0 e S e1 S1∧Da P rs e1 S1=some vs∧SubOk κ S1 S'∧κ.take N0=List.range N0∧v.ok κ.length=true∧(Ea vs=v.ren (Az κ)∨(Ea vs).wk=v.ren (Az κ))
def Dw(P:Program)(rs:List ResultVar)(N0:Nat)(v:AV)(S':Ae):AX→Af→Ae→Prop
 |.norm=>Fin P rs N0 v S'
 |.ret=>Fin P rs N0 v S'
 |.exit _=>fun _ _=>False
section
variable {P:Program}
theorem ZkL{w:World}{g:Gh}{S:Ae}(hw:WF w g S){ty:TypeId}{x v:AV}{cx:Value}(hx:Rel w g x cx)(h:D7 (AJ P ty) S x=some v):∃ad cv,cx=.pointer (some ad)∧(loadVar ty ad).run P w=.ok cv w∧Rel w g v cv:=by
 unfold D7 at h;split at h
 ·rename_i sz ag l off hs
  split at h
  ·rename_i cs hS
   obtain⟨arr,T,fr,h4,h5,hc,hl,_⟩:=O0 hw hS;cases hx
   obtain⟨cv,h1,h2⟩:=M7 (P:=P) hc (b:=g.pl l) (o:=0) (fun j hj=>by rw[Nat.zero_add,cell_of_row w (g.pl l) j arr T fr h4]) hs h
   rw[Nat.zero_add]at h1;exact⟨_,cv,rfl,h1,h2⟩
  ·cases h
 ·rename_i sz ag v' off hs
  cases hx with
  | pst _ _ _ b o' cu hA h1 hr'=>
   have hc:AI w g v'.cells ((List.range v'.cells.length).map cu).toArray:=by
    refine⟨by simp,fun u hu=>?_,fun j u z hu hz=>?_⟩
    ·simp only[List.mem_map,List.mem_range]at hu
     obtain⟨j,hj,rfl⟩:=hu;exact h1 j hj
    ·have hj:=(List.getElem?_eq_some_iff.1 hu).1
     simp[List.getElem?_range hj]at hz
     rw[←hz];exact(hr' j u hu).ofNoid
   obtain⟨cv,h2,h3⟩:=M7 (P:=P) hc (b:=b) (o:=o') (fun j hj=>by
    have hj':j<v'.cells.length:=by simpa using hj
    rw[(hA j hj').2];simp[List.getElem?_range hj']) hs h
   exact⟨_,cv,rfl,h2,h3⟩
 ·rename_i sz ag l n off hs
  split at h
  ·rename_i cs el z hS
   split at h
   ·rename_i hc0
    exact Vs (P:=P) hw hs hS hc0 h hx
   ·cases h
  ·cases h
 ·cases h
def ON(tmps:Array Value):ResultVar→Sem Value
 |.tmp t=>pure (tmps.getD t undef)
 |.cell a t=>do loadVar t (←asAddr (tmps.getD a undef))
theorem TS{w:World}{g:Gh}{S:Ae}{e:Af}{a:Act}(hw:WF w g S)(he:CZ w g e a):∀(rs:List ResultVar) (vs:List AV),Da P rs e S=some vs →
  ∃cvs:List Value,(rs.mapM (ON a.tmps)).run P w=.ok cvs w∧cvs.length=vs.length ∧
   ∀(j:Nat) u v,vs[j]? = some u→cvs[j]? = some v→Rel w g u v
 |[],vs,h=>by
  cases h
  exact⟨[],by simp,rfl,by simp⟩
 | .tmp t::rest,vs,h=>by
  simp only[Da]at h;obtain⟨vs',h1,rfl⟩:=Option.map_eq_some_iff.1 h;obtain⟨cvs,h2,h3,h4⟩:=TS hw he rest vs' h1;refine⟨a.tmps.getD t undef::cvs,by simp only[List.mapM_cons,Sem.run_bind,ON,Sem.run_pure,Result.andThen_ok,h2],by simp[h3],fun j u v hu hv=>?_⟩
  cases j with
  |zero=>
   simp only[List.getElem?_cons_zero,Option.some.injEq]at hu hv
   rw[←hu,←hv];exact he t
  |succ j=>exact h4 j u v (by simpa using hu) (by simpa using hv)
 | .cell x t::rest,vs,h=>by
  simp only[Da]at h;split at h
  ·rename_i v' vs' h0 h1
   cases h
   obtain⟨cvs,h2,h3,h4⟩:=TS hw he rest vs' h1;obtain⟨ad,cv,h5,h6,h7⟩:=ZkL hw (he x) h0;refine⟨cv::cvs,by simp only[List.mapM_cons,Sem.run_bind,ON,h5,asAddr,Sem.run_pure,Result.andThen_ok,h6,h2],by simp[h3],fun j u v hu hv=>?_⟩
   cases j with
   |zero=>simp at hu hv;rw[←hu,←hv];exact h7
   |succ j=>exact h4 j u v (by simpa using hu) (by simpa using hv)
  ·cases h
theorem ZeO{w:World}{g:Gh}{S:Ae}{e:Af}{a:Act}(hw:WF w g S)(he:CZ w g e a){fn:Func}{vs:List AV}(h:Da P fn.results.toList e S=some vs):
  ∃cv,(results fn a.tmps).run P w=.ok cv w∧Rel w g (Ea vs) cv:=by
 obtain⟨cvs,h1,h2,h3⟩:=TS hw he fn.results.toList vs h;have hrun:(results fn a.tmps).run P w=.ok (if h:cvs.toArray.size=1 then cvs.toArray[0]else .tuple cvs.toArray) w:=by
  have hf:results fn a.tmps=(do let vs ←fn.results.mapM (ON a.tmps);pure (if h:vs.size=1 then vs[0]else .tuple vs)):=by
   unfold results;congr 1
  rw[hf,Sem.run_bind,Array.mapM_eq_mapM_toList,Sem.run_map,h1];rfl
 refine⟨_,hrun,?_⟩
 match vs,cvs,h2,h3 with
 |[u],[v],_,h3=>exact h3 0 u v rfl rfl
 |[],[],_,_=>exact .tup g [] #[] rfl (by simp)
 |u::u'::us,v::v'::cs,h2,h3=>
  have:¬(v::v'::cs).toArray.size=1:=by simp
  rw[dif_neg this];exact .tup g _ _ (by simpa using h2) (fun j u v hu hv=>h3 j u v hu (by simpa using hv))
theorem Evo.sub{w0 w:World}{g0 g:Gh}{κ:List Nat}(h:Evo w0 g0 w g)(hn:κ.Nodup)(hin:∀i,i<κ.length→Az κ i<g.nid)(hk:κ.take g0.nid=List.range g0.nid):Evo w0 g0 w (g.sub κ):=by
 have hlen:g0.nid≤κ.length:=by
  have :=congrArg List.length hk;rw[List.length_take,List.length_range]at this;omega
 have hid:∀l,l<g0.nid→Az κ l=l:=by
  intro l hl
  have:κ[l]? = some l:=by
   rw[←List.getElem?_take_of_lt hl,hk,List.getElem?_range hl]
  unfold Az;rw[List.getD_eq_getElem?_getD,this]
  rfl
 refine⟨⟨h.cell,h.G,hlen,fun l hl=>?_,h.map⟩,h.os,h.tape,h.output,h.size,h.old,fun l b hl hb hlt=>?_,h.Gold⟩
 ·have :=h.keep l hl
  show g.buf (Az κ l)=_∧((g.pl (Az κ l)=_∧g.wm (Az κ l)=_∧g.cap (Az κ l)=_)∨(_∧_<g.wm (Az κ l)))
  rw[hid l hl];exact this
 ·have hb':g.own (Az κ l) b:=hb
  have hl':l<κ.length:=hl;obtain⟨h1,h2⟩:=h.own (Az κ l) b (hin l hl') hb' hlt;have h3:Az κ (Az κ l)=Az κ l:=hid _ h1;have h4:=Su hn (by omega) hl' h3
  rw[h4]at h1 h2;exact⟨h1,h2⟩
theorem SubOk.lt{w:World}{g:Gh}{S S':Ae}{κ:List Nat}(hs:SubOk κ S S')(h:WF w g S):∀i,i<κ.length→Az κ i<g.nid:=by
 intro i hi;have hi':i<S'.length:=by rw[hs.len];exact hi
 have h2:=(hs.ok i _ (List.getElem?_eq_getElem hi')).2
 rw[h.nid];exact(List.getElem?_eq_some_iff.1 h2).1
theorem Le.aside{w:World}{g:Gh}{b:Nat}{D:Option (List Deferred)}(h:w.heap[b]? = some (.deferred D))(ob:Obj):Le w g { w with heap:=w.heap.setIfInBounds b ob } g:=by
 have hne:∀{b' o:Nat} {v:Value},w.cell? ⟨b',o,none⟩=some v→b'≠b:=fun hv e=>by
  subst e;simp[World.cell?,h]at hv
 refine⟨fun b' o v hb hv=>?_,fun _ _ _ h _=>h,Nat.le_refl _,fun _ _=>⟨rfl,.inl ⟨rfl,rfl,rfl⟩⟩,fun b' me c hg hm=>⟨hg,(Ij (fun e=>by subst e;rw[h]at hm;cases hm)).trans hm⟩⟩
 rw[World.cell?_of_block (w:=w) (Ij (hne hv))]
 exact hv
theorem WF.aside{w:World}{g:Gh}{S:Ae}{b:Nat}{D:Option (List Deferred)}(hw:WF w g S)(h:w.heap[b]? = some (.deferred D))(hno:∀l,l<g.nid → ¬g.own l b)(ob:Obj):WF { w with heap:=w.heap.setIfInBounds b ob } g S:=by
 have hle:=Le.aside (g:=g) h ob;refine⟨hw.nid,fun l o hl=>?_,hw.disj,fun l b' hl hb=>?_,hw.tab.le hle⟩
 ·have hlt:l<g.nid:=by rw[hw.nid];exact(List.getElem?_eq_some_iff.1 hl).1
  exact(hw.obj l o hl).keep hle rfl rfl rfl rfl rfl (fun _ _=>rfl) (fun b' hb=>Ij fun e=>hno l hlt (by rw[←e];exact hb))
 ·have :=hw.lt l b' hl hb
  simpa using this
theorem W8{fn:Func}{R:Ending→World→Prop}{w0:World}{g0 g:Gh}{e:Af}{S:Ae}{a:Act}:∀(D:List Deferred) (w:World),WF w g S→CZ w g e a→EvD w0 g0 w g D →
  (∀w',WF w' g S→CZ w' g e a→Evo w0 g0 w' g → ∃v,(results fn a.tmps).run P w'=.ok v w'∧R (.returned v) w')→LeavesInM (wR none) 0 P fn a.tmps R D .returning w
 |[],w,hw,he,hD,h=>h w hw he hD.toEvo
 | d::D,w,hw,he,hD,h=>by
  obtain⟨b,h1,h2,h3,h4,h5⟩:=hD.defs d (by simp)
  have hle:=Le.aside (g:=g) h4 (.deferred none);refine⟨by simp,.inl ⟨b,w.putObj b (.deferred none),h1,run_takeDeferred h4,W8 D _ (hw.aside h4 h5 _) (fun t=>(he t).le hle) ⟨⟨hD.toLe.trans hle,hD.os,hD.tape,hD.output,by simpa[World.putObj] using hD.size,fun b' hb hn=>(Ij (fun e=>by omega)).trans (hD.old b' hb hn),hD.own,hD.Gold⟩,fun d' hd'=>?_,(by have :=hD.nodup;simp only[List.map_cons,List.nodup_cons]at this;exact this.2)⟩ h⟩⟩
  obtain⟨b',k1,k2,k3,k4,k5⟩:=hD.defs d' (by simp[hd'])
  have hne:b'≠b:=fun e=>by
   have :=hD.nodup;simp only[List.map_cons,List.nodup_cons]at this;exact this.1 (List.mem_map.2 ⟨d',hd',by rw[k1,h1,e]⟩)
  exact⟨b',k1,k2,by simpa[World.putObj] using k3,(Ij hne).trans k4,k5⟩
theorem AC.of_wp{f:FuncId}{fn:Func}{c:Code}{args:List AV}{S S':Ae}{v:AV}(hf:P.funcs[f]? = some fn)(hb:fn.body=some c)(hname:fn.name ≠ "runtime.NumGoroutine")(hn:args.length≤fn.ntmps)
  (h:∀(w:World) (g:Gh) (a:Act),g.nid=S.length→AP fn.ntmps w g (BH args) S a w→c.wpIn (wR none) 0 P (EW fn.ntmps w g (Dw P fn.results.toList S.length v S')) a w):AC P f args S v S':=by
 refine⟨by simp[NJ,hf,hb,hname],fun w g cargs hw hargs=>?_⟩
 refine(callsIn_wide (n:=0)).1 (callsIn_of_wp_marks hf hb trivial ?_)
 have hc:AP fn.ntmps w g (BH args) S { tmps:=cargs++Array.replicate (fn.ntmps-cargs.size) undef,defers:=[] } w:=by
  refine⟨by simp[hargs.1];omega,trivial,g,hw,fun t=>?_,.none (Evo.refl w g)⟩
  show Rel w g (args.getD t .junk) ((cargs++Array.replicate (fn.ntmps-cargs.size) undef).getD t undef)
  rw[List.getD_eq_getElem?_getD]
  cases ht:args[t]? with
  |none=>exact .junk _ _
  |some u=>
   have hlt:t<cargs.size:=by rw[hargs.1];exact(List.getElem?_eq_some_iff.1 ht).1
   have h1:cargs[t]? = some cargs[t]:=Array.getElem?_eq_getElem hlt
   rw[Array.getD_eq_getD_getElem?,Array.getElem?_append_left hlt,h1]
   exact hargs.2 t u _ ht h1
 refine Go.wpIn_mono (h w g _ hw.nid hc) ?_
 have fin:∀a' w' e1 S1,AP fn.ntmps w g e1 S1 a' w'→Fin P fn.results.toList S.length v S' e1 S1→LeavesInM (wR none) 0 P fn a'.tmps (fun r w'=>∃cv' g',r=.returned cv'∧WF w' g' S'∧Rel w' g' v cv'∧Evo w g w' g') a'.defers .returning w':=by
  rintro a' w' e0 S0 hc0 ⟨e1,S1,vs,κ,k0,k1,k2,k3,k4,k5⟩
  obtain⟨_,_,g1,h3,h4,h5⟩:=k0 fn.ntmps w g a' w' hw.nid hc0;refine W8 a'.defers w' h3 h4 h5 fun w' h3 h4 h5=>?_
  obtain⟨cv,r1,r2⟩:=ZeO h3 h4 k1;refine⟨cv,r1,cv,g1.sub κ,rfl,h3.sub k2,?_,h5.sub k2.nodup (k2.lt h3) (by rw[hw.nid];exact k3)⟩
  rcases k5 with k5|k5
  ·rw[k5]at r2
   exact Rel.unren (HY w' g1 κ) r2 k4
  ·have r3:=r2.wk
   rw[k5]at r3;exact Rel.unren (HY w' g1 κ) r3 k4
 intro ex a' w' hq;cases ex with
 |normal=>obtain⟨e1,S1,hc1,h1⟩:=hq;exact fin a' w' e1 S1 hc1 h1
 |ret=>obtain⟨e1,S1,hc1,h1⟩:=hq;exact fin a' w' e1 S1 hc1 h1
 |exit id=>obtain⟨e1,S1,hc1,h1⟩:=hq;exact h1.elim
 |_=>exact hq.elim
theorem AC.enter{f:FuncId}{fn:Func}{c:Code}{args:List AV}{S S':Ae}{v:AV}(pf rf:List FuncId)(hf:P.funcs[f]? = some fn)(hb:fn.body=some c)(hname:fn.name ≠ "runtime.NumGoroutine")(hm:P.follows .mixedOrders=true)
  (hn:args.length≤fn.ntmps)(hok:Dx P pf rf fn.ntmps c=true)(h:AW P pf rf S.length (Cm c) (Dw P fn.results.toList S.length v S') (BH args) S):AC P f args S v S':=
 AC.of_wp hf hb hname hn fun w g a hg hc=>N2 none (.inl rfl) hm hg _ (BH args) S a w hok hc h
theorem AC.enterN{f:FuncId}{fn:Func}{c:Code}{args:List AV}{S S':Ae}{v:AV}(N:Nat)(pf rf:List FuncId)(hf:P.funcs[f]? = some fn)(hb:fn.body=some c)(hname:fn.name ≠ "runtime.NumGoroutine")(hm:P.follows .mixedOrders=true)
  (hn:args.length≤fn.ntmps)(hok:Dx P pf rf fn.ntmps c=true)(hN:fn.ntmps=N)(h:AW P pf rf S.length (Cu (some N) c) (Dw P fn.results.toList S.length v S') (BH args) S):AC P f args S v S':=
 AC.of_wp hf hb hname hn fun w g a hg hc=>Zbd (some N) (fun _ e=>by cases e;exact hN.symm) none hm hg c _ (BH args) S a w hok (.inl rfl) hc h
end
end Pe
namespace Pe
open Go Go.RowKit
variable [Tab]
def NG(v:AV)(X Y:Prop):Prop:=
 match v with
 |.bo b=>D1 b X Y
 |_=>False
@[congr] theorem ZmV{v u:AV}(X Y:Prop)(h:v=u):NG v X Y=NG u X Y:=by rw[h]
theorem Zk(b:Bool)(X Y:Prop):NG (.bo b) X Y=D1 b X Y:=rfl
def Mb(P:Program)(pf rf:List FuncId)(t:Nat)(v:AV)(args:List AV)(S:Ae)(K:AV→Ae→Prop):Prop:=
 match v with
 |.fn (.func f) fa ca=>Dy (T0 P pf rf (.tmp t) f (fa++args++ca) S) K
 |.fn (.yield b) fa []=>Dy (Mu P pf rf t b (fa++args) S) K
 |_=>False
@[congr] theorem ZmA{P:Program}{pf rf:List FuncId}{t:Nat}{v u:AV}(args:List AV)(S:Ae)(K:AV→Ae→Prop)(h:v=u):Mb P pf rf t v args S K=Mb P pf rf t u args S K:=by rw[h]
theorem X7(P:Program)(pf rf:List FuncId)(t:Nat)(f:FuncId)(fa ca args:List AV)(S:Ae)(K:AV→Ae→Prop):Mb P pf rf t (.fn (.func f) fa ca) args S K =
  Dy (if pf.contains (t+1000000)then Ms P f (fa++args++ca) S else if rf.contains (t+1000000)then NW P f (fa++args++ca) S else F2 P pf rf f (fa++args++ca) S) K:=rfl
theorem X6(P:Program)(pf rf:List FuncId)(t b:Nat)(args:List AV)(S:Ae)(K:AV→Ae→Prop):Mb P pf rf t (.fn (.yield b) [] []) args S K=Dy (Mu P pf rf t b args S) K:=rfl
def NZ(P:Program)(pf rf:List FuncId)(N0:Nat)(c:CC)(Q:AX→Af→Ae→Prop)(e:Af)(S:Ae):Prop:=AW P pf rf N0 c Q e S
def TY(P:Program)(pf rf:List FuncId)(l:List AO)(e:Af)(S:Ae)(K:Af→Ae→Prop):Prop:=Bs P pf rf l e S K
def TZ(P:Program)(pf rf:List FuncId)(op:Op)(e:Af)(S:Ae)(K:AV→Ae→Prop):Prop:=Bd P pf rf op e S K
def Kh(k:Kd)(X Y:Unit→Prop):Prop:=
 match k with
 |.bytes=>X ()
 |_=>Y ()
@[congr] theorem ZmO{k k':Kd}(X Y:Unit→Prop)(h:k=k'):Kh k X Y=Kh k' X Y:=by rw[h]
theorem Zj(X Y:Unit→Prop):Kh .bytes X Y=X ():=rfl
theorem Zi(k:IntKind)(X Y:Unit→Prop):Kh (.int k) X Y=Y ():=rfl
theorem Zh(X Y:Unit→Prop):Kh .str X Y=Y ():=rfl
def F1(P:Program)(pf rf:List FuncId)(d:Option Nat)(rest:List AO)(e:Af)(K:Af→Ae→Prop):AV→Ae→Prop:=fun v S'=>Bs P pf rf rest (put e d v) S' K
def D5(x:Option AV)(K:AV→Ae→Prop)(S:Ae):Prop:=B4 x fun v=>K v S
def PX(x:Option Ae)(K:AV→Ae→Prop):Prop:=B4 x fun S'=>K .junk S'
def Z3(x:Option (List AV))(K:AV→Ae→Prop)(S:Ae):Prop:=B4 x fun cs=>K (.ptr S.length 0) (S++[.cells cs])
def Mj(x:Option (AV×Ae))(K:AV→Ae→Prop):Prop:=B4 x fun r=>K r.1 r.2
def Z1(x:Option Unit)(K:AV→Ae→Prop)(S:Ae):Prop:=B4 x fun _=>K (.mp S.length) (S++[.map []])
def XS(x:Option Bool)(A B:Prop):Prop:=B4 x fun b=>D1 b A B
theorem ZV(v:AV)(K:AV→Ae→Prop)(S:Ae):D5 (some v) K S=K v S:=rfl
theorem ZW(S':Ae)(K:AV→Ae→Prop):PX (some S') K=K .junk S':=rfl
def ZU(x:Option (List AV))(t:TypeId)(K:AV→Ae→Prop)(S:Ae):Prop:=B4 x fun z=>K (.ptr S.length 0) (S++[GD t z])
theorem ZT(z:List AV)(t:TypeId)(K:AV→Ae→Prop)(S:Ae):ZU (some z) t K S=K (.ptr S.length 0) (S++[GD t z]):=rfl
theorem Z2(cs:List AV)(K:AV→Ae→Prop)(S:Ae):Z3 (some cs) K S=K (.ptr S.length 0) (S++[.cells cs]):=rfl
theorem ZX(v:AV)(S':Ae)(K:AV→Ae→Prop):Mj (some (v,S')) K=K v S':=rfl
theorem Z0(K:AV→Ae→Prop)(S:Ae):Z1 (some ()) K S=K (.mp S.length) (S++[.map []]):=rfl
theorem XR(b:Bool)(A B:Prop):XS (some b) A B=D1 b A B:=rfl
theorem Jo{x:Option AV}{K:AV→Ae→Prop}{S:Ae}(v:AV)(h:x=some v)(h':K v S):D5 x K S:=by rw[h];exact h'
def Wd(v x y:AV)(K:AV→Ae→Prop)(S:Ae):Prop:=
 match v with
 |.bo t=>K (if t then x else y) S
 |_=>False
theorem Wc(b:Bool)(x y:AV)(K:AV→Ae→Prop)(S:Ae):Wd (.bo b) x y K S=K (if b then x else y) S:=rfl
def ZfF(v x y:AV)(K:AV→Prop):Prop:=
 match v with
 |.bo t=>K (if t then x else y)
 |_=>False
section
variable (P:Program) (pf rf:List FuncId) (N0:Nat) (Q:AX→Af→Ae→Prop) (next:Af→Ae→Prop) (e:Af) (S:Ae) (K:AV→Ae→Prop)
theorem Za9:AW P pf rf N0 .skip Q e S=Q .norm e S:=rfl
theorem Zbc(l:List AO):AW P pf rf N0 (.reg l) Q e S=Bs P pf rf l e S (Q .norm):=rfl
theorem Zba(a b:CC):AW P pf rf N0 (.seq a b) Q e S=AW P pf rf N0 a (CR Q (AW P pf rf N0 b Q)) e S:=rfl
theorem Zbh(c:Operand)(t f:CC):AW P pf rf N0 (.cond c t f) Q e S=NG (ev e c) (NZ P pf rf N0 t Q e S) (NZ P pf rf N0 f Q e S):=rfl
theorem Zbi(id:Nat)(b:CC):AW P pf rf N0 (.block id b) Q e S=AW P pf rf N0 b (EE id Q) e S:=rfl
theorem Zbf(b:CC):AW P pf rf N0 (.loop b) Q e S=GC N0 (AW P pf rf N0 b) Q e S:=rfl
theorem Zbg(id:Nat):AW P pf rf N0 (.exit id) Q e S=Q (.exit id) e S:=rfl
theorem Zbb:AW P pf rf N0 .ret Q e S=Q .ret e S:=rfl
theorem UD:CR Q next .norm e S=next e S:=rfl
theorem UC:CR Q next .ret e S=Q .ret e S:=rfl
theorem UE(id:Nat):CR Q next (.exit id) e S=Q (.exit id) e S:=rfl
theorem ZN(id:Nat):EE id Q .norm e S=Q .norm e S:=rfl
theorem ZM(id:Nat):EE id Q .ret e S=Q .ret e S:=rfl
theorem ZL(id:Nat):EE id Q (.exit id) e S=Q .norm e S:=by simp[EE]
theorem ZO(id i:Nat):EE id Q (.exit i) e S=if i=id then Q .norm e S else Q (.exit i) e S:=by
 show(if i=id then Q .norm else Q (.exit i)) e S=_
 split<;>rfl
theorem Zbk(K:Af→Ae→Prop):Bs P pf rf [] e S K=K e S:=rfl
theorem Zbm(d:Option Nat)(op:Op)(rest:List AO)(K:Af→Ae→Prop):Bs P pf rf (⟨d,op,none⟩::rest) e S K=Bd P pf rf op e S (F1 P pf rf d rest e K):=by
 show D1 true _ _=_
 rw[GW];rfl
theorem Zbl(d:Option Nat)(op:Op)(gd:Option Nat×Bool)(rest:List AO)(K:Af→Ae→Prop):Bs P pf rf (⟨d,op,some gd⟩::rest) e S K =
  XS (FA (some gd) e) (TZ P pf rf op e S (F1 P pf rf d rest e K)) (TY P pf rf rest (put e d (.tup [])) S K):=rfl
theorem P7(c:CC):NZ P pf rf N0 c Q e S=AW P pf rf N0 c Q e S:=rfl
theorem P9(l:List AO)(K:Af→Ae→Prop):TY P pf rf l e S K=Bs P pf rf l e S K:=rfl
theorem Qb(op:Op):TZ P pf rf op e S K=Bd P pf rf op e S K:=rfl
theorem Xr(c:CC)(Y:Prop):D1 true (NZ P pf rf N0 c Q e S) Y=AW P pf rf N0 c Q e S:=GW _ _
theorem Xt(c:CC)(X:Prop):D1 false X (NZ P pf rf N0 c Q e S)=AW P pf rf N0 c Q e S:=Hu _ _
theorem Xs(op:Op)(Y:Prop):D1 true (TZ P pf rf op e S K) Y=Bd P pf rf op e S K:=GW _ _
theorem Xu(l:List AO)(K:Af→Ae→Prop)(X:Prop):D1 false X (TY P pf rf l e S K)=Bs P pf rf l e S K:=Hu _ _
theorem Zbj(d:Option Nat)(rest:List AO)(K:Af→Ae→Prop)(v:AV):F1 P pf rf d rest e K v S=Bs P pf rf rest (put e d v) S K:=rfl
theorem Zbw(x:Operand):Bd P pf rf (.move x) e S K=K (ev e x) S:=rfl
theorem ZbS(x:Operand):Bd P pf rf (.assign x) e S K=K (ev e x) S:=rfl
theorem ZbD(t:TypeId)(x:Operand):Bd P pf rf (.load t x) e S K=D5 (D7 (AJ P t) S (ev e x)) K S:=rfl
theorem Zbq(t:TypeId)(x y:Operand):Bd P pf rf (.store t x y) e S K=PX (Iw (AJ P t) S (ev e x) (ev e y)) K:=rfl
theorem ZbQ(t:TypeId)(x:Operand):Bd P pf rf (.box t x) e S K=Z3 (if(ev e x).solid=true then some (ev e x).cells else none) K S:=rfl
theorem ZbU(t:TypeId):Bd P pf rf (.alloc t) e S K=ZU (BF P t) t K S:=rfl
theorem ZbE(t:TypeId)(n:Nat)(parts:Array (Nat×Operand)):Bd P pf rf (.buildSlice t n parts) e S K=D5 (Jv P t n (parts.toList.map fun p=>(p.1,ev e p.2))) K S:=rfl
theorem ZbB(t:TypeId)(x y:Operand):Bd P pf rf (.makeSlice t x y) e S K=Mj (MY (IE P t (ev e x) (ev e y) S) (ID P t (ev e x) (ev e y) S)) K:=rfl
theorem Zbx(t:TypeId)(r:Option Operand):Bd P pf rf (.makeMap t r) e S K=Z1 (OV ((r.isNone||(Ey P t).isSome)&&Ju (r.map (ev e)))) K S:=rfl
theorem ZbG(t:TypeId)(m k v:Operand):Bd P pf rf (.insert t m k v) e S K=PX (G4 (Ey P t) S (ev e m) (ev e k) (ev e v)) K:=rfl
theorem ZbA(t:TypeId)(m k v:Operand):Bd P pf rf (.mapUpdate t m k v) e S K=PX (G4 (Ey P t) S (ev e m) (ev e k) (ev e v)) K:=rfl
theorem ZbC(t:TypeId)(x k:Operand)(b:Bool):Bd P pf rf (.lookup t x k b) e S K=D5 (Gy (Ey P t) S (ev e x) (ev e k) b) K S:=rfl
theorem Zbs(t:TypeId)(x:Operand):Bd P pf rf (.range t x) e S K=Mj (Iy (Ba P t) S (ev e x)) K:=rfl
theorem Zbv(x:Operand)(b:Bool):Bd P pf rf (.next x b) e S K=Mj (IC S (ev e x) b) K:=rfl
theorem ZaO(cs:List AV):Bc cs 0 []=cs:=by simp[Bc]
theorem ZaL(c u:AV)(cs us:List AV):Bc (c::cs) 0 (u::us)=u::Bc cs 0 us:=by simp[Bc,Nat.add_comm]
theorem ZaM(c:AV)(cs us:List AV)(n:Nat):Bc (c::cs) (n+1) us=c::Bc cs n us:=by simp[Bc,Nat.succ_add]
theorem ZkG{α:Type}(f:α→AV)(l:List α)(i:Nat)(x:α)(h:i<l.length):Bc (l.map f) i [f x]=(l.set i x).map f:=by
 simp only[Bc,List.length_cons,List.length_nil];rw[List.set_eq_take_append_cons_drop,if_pos h];simp
theorem ZaN(l:List (List UInt8))(i:Nat)(x:List UInt8)(h:i<l.length):Bc (l.map .st) i [.st x]=(l.set i x).map .st:=ZkG .st l i x h
theorem ZbO(s d:TypeId)(x:Operand):Bd P pf rf (.convert s d x) e S K=Kh (Ba P d) (fun _=>Mj (Jy P s d (ev e x) S) K) (fun _=>D5 (HL P s d (ev e x)) K S):=by
 show(match Ba P d with |.bytes=>_|_=>_)=_
 unfold Kh;split<;>rfl
theorem ZbJ(f:FuncId)(args:Array Operand)(ts:Array TypeId):Bd P pf rf (.call { callee:=.value (.func f),args:=args,argTypes:=ts }) e S K=Dy (F2 P pf rf f (args.toList.map (ev e)) S) K:=by
 show Dy (F2 P pf rf f ([]++args.toList.map (ev e)++[]) S) K=_
 rw[List.nil_append,List.append_nil]
theorem Zbp(t:Nat)(args:Array Operand)(ts:Array TypeId):Bd P pf rf (.call { callee:=.value (.tmp t),args:=args,argTypes:=ts }) e S K=Mb P pf rf t (e t) (args.toList.map (ev e)) S K:=by
 unfold Bd Mb;rfl
theorem ZbT(x y:Operand)(t u:TypeId):Bd P pf rf (.call { callee:=.builtin .append,args:= #[x,y],argTypes:= #[t,u] }) e S K=Mj (GB P t u S (ev e x) (ev e y)) K:=rfl
theorem ZbF(args:Array Operand)(ts:Array TypeId):Bd P pf rf (.call { callee:=.builtin .len,args:=args,argTypes:=ts }) e S K=D5 (Gz P .len ts (args.toList.map (ev e))) K S:=rfl
theorem Zby(args:Array Operand)(ts:Array TypeId):Bd P pf rf (.call { callee:=.builtin .min,args:=args,argTypes:=ts }) e S K=D5 (Gz P .min ts (args.toList.map (ev e))) K S:=rfl
theorem Zbz(args:Array Operand)(ts:Array TypeId):Bd P pf rf (.call { callee:=.builtin .max,args:=args,argTypes:=ts }) e S K=D5 (Gz P .max ts (args.toList.map (ev e))) K S:=rfl
theorem Zbt(c x y:Operand):Bd P pf rf (.pick c x y) e S K=Wd (ev e c) (ev e x) (ev e y) K S:=rfl
theorem Zbu(x:Operand):Bd P pf rf (.nilCheck x) e S K=D5 (IB (ev e x)) K S:=rfl
theorem ZbR(op:BinOp)(t t':TypeId)(x y:Operand):Bd P pf rf (.binOp op t x y t') e S K=D5 (GA P op t e x y) K S:=rfl
theorem ZaR(op:BinOp)(t:TypeId)(x:Operand)(y:Nat):GA P op t e x (.tmp y)=EF P op t (ev e x) (e y):=rfl
theorem ZaX(op:BinOp)(t:TypeId)(x:Operand)(k:IntKind)(n:Int):GA P op t e x (.const (.int k n))=EF P op t (ev e x) (.it k n):=rfl
theorem ZaS(op:BinOp)(t:TypeId)(x:Operand)(a:Array UInt8):GA P op t e x (.const (.string ⟨a⟩))=EF P op t (ev e x) (.st a.toList):=rfl
theorem ZaY(op:BinOp)(t:TypeId)(x:Operand)(b:Bool):GA P op t e x (.const (.bool b))=EF P op t (ev e x) (.bo b):=rfl
theorem ZaZ(op:BinOp)(t:TypeId)(x:Operand)(a:Array Value):GA P op t e x (.const (.agg a))=EF P op t (ev e x) (ev e (.const (.agg a))):=rfl
theorem ZaT(op:BinOp)(t:TypeId)(x:Operand)(a:Option Addr):GA P op t e x (.const (.pointer a))=EF P op t (ev e x) (ev e (.const (.pointer a))):=rfl
theorem ZaW(op:BinOp)(t:TypeId)(x:Operand)(a:Option Nat):GA P op t e x (.const (.map a))=EF P op t (ev e x) (ev e (.const (.map a))):=rfl
theorem ZaV(op:BinOp)(t:TypeId)(x:Operand):GA P op t e x (.const .nilFunc)=EF P op t (ev e x) (ev e (.const .nilFunc)):=rfl
theorem ZaU(op:BinOp)(t:TypeId)(x:Operand)(n c:Nat):GA P op t e x (.const (.slice none n c))=if(Bt P t).isSome=true then IA op (ev e x)else none:=rfl
theorem Zbo(op:UnOp)(t:TypeId)(x:Operand):Bd P pf rf (.unOp op t x) e S K=D5 (Iv op (ev e x)) K S:=rfl
theorem ZbK(f:Fn)(a b:Array Operand):Bd P pf rf (.makeFunc f a b) e S K=K (.fn f (a.toList.map (ev e)) (b.toList.map (ev e))) S:=rfl
theorem Zbr(t:TypeId)(x:Operand)(lo hi mx:Option Operand):Bd P pf rf (.slice t x lo hi mx) e S K=D5 (Ix P t (ev e x) (lo.map (ev e)) (hi.map (ev e)) (mx.map (ev e))) K S:=rfl
theorem ZbL(t:TypeId)(x:Operand)(f:Nat):Bd P pf rf (.fieldAddr t x f) e S K=D5 (IH (Ar P t f) (ev e x)) K S:=rfl
theorem ZbM(t:TypeId)(x:Operand)(f:Nat):Bd P pf rf (.field t x f) e S K=D5 (II (Ar P t f) (ev e x)) K S:=rfl
theorem ZbH(t:TypeId)(x i:Operand):Bd P pf rf (.indexAddr t x i) e S K=D5 (IF P t (ev e x) (ev e i)) K S:=rfl
theorem ZbI(t:TypeId)(x i:Operand):Bd P pf rf (.index t x i) e S K=D5 (IG P t (ev e x) (ev e i)) K S:=rfl
theorem ZbN(t:Operand)(i:Nat):Bd P pf rf (.extract t i) e S K=D5 (Fy P e (.extract t i)) K S:=rfl
theorem ZbP(t:TypeId)(parts:Array (Nat×Operand)):Bd P pf rf (.build t parts) e S K=D5 (Fy P e (.build t parts)) K S:=rfl
theorem We(b:Bool)(x y:AV)(K:AV→Prop):ZfF (.bo b) x y K=K (if b then x else y):=rfl
theorem Yp(t:Nat):ev e (.tmp t)=e t:=rfl
theorem Ys(v:Value):ev e (.const v)=E5 v:=rfl
theorem Yq(g:Nat):ev e (.global g)=.ot (.pointer (some ⟨g,0,none⟩)):=rfl
theorem Yr(f:FuncId):ev e (.func f)=.fn (.func f) [] []:=rfl
theorem Rj(d:Nat)(v:AV):put e (some d) v=Aw e d v:=rfl
theorem VU(v:AV):put e none v=e:=rfl
theorem Qp(d t:Nat)(v:AV):Aw e d v t=if t=d then v else e t:=rfl
theorem TN(a:AV)(l:List AV):BH (a::l) 0=a:=rfl
theorem TO(a:AV)(l:List AV)(n:Nat):BH (a::l) (n+1)=BH l n:=rfl
theorem Zd(b:Bool):E5 (.bool b)=.bo b:=rfl
theorem Zb(k:IntKind)(n:Int):E5 (.int k n)=.it k n:=rfl
theorem Y7(a:Array UInt8):E5 (.string ⟨a⟩)=.st a.toList:=rfl
theorem Y9:E5 (.slice none 0 0)=.sl .full []:=rfl
theorem Y8:E5 (.pointer none)=.ot (.pointer none):=rfl
theorem Zc:E5 .nilFunc=.ot .nilFunc:=rfl
theorem Za:E5 (.map none)=.ot (.map none):=rfl
theorem Ze(arr:Array Value):E5 (.agg arr)=if arr.toList.all (·.oneCell')then .agg (arr.toList.map Dk)else .junk:=rfl
end
theorem AT{P:Program}{pf rf:List FuncId}{e:Af}{C:AV→Ae→Prop}{d:Option Nat}{rest:List AO}{K:Af→Ae→Prop}{v:AV}{S':Ae}(h:C v S')(h':Bs P pf rf rest (put e d v) S' K):Dy C (F1 P pf rf d rest e K):=⟨v,S',h,h'⟩
theorem ZjH{P:Program}{pf rf:List FuncId}{e:Af}{f:FuncId}{args args':List AV}{S:Ae}{d:Option Nat}{rest:List AO}{K:Af→Ae→Prop}{v:AV}(h:AC P f args' [] v [])(ha:args.map AV.wk=args')(hk:args'.all (AV.ok 0)=true)(hv:v.ok 0=true)
  (h':Bs P pf rf rest (put e d v) S K):Dy (Ms P f args S) (F1 P pf rf d rest e K):=by
 subst ha;exact⟨v,S,⟨h,hk,hv,rfl⟩,h'⟩
theorem Aq.refl(N0:Nat)(e:Af)(S:Ae):Aq N0 e S e S:=fun _ _ _ _ _ _ h=>h
theorem Aq.trans{N0:Nat}{e e' e'':Af}{S S' S'':Ae}(h:Aq N0 e S e' S')(h':Aq N0 e' S' e'' S''):Aq N0 e S e'' S'':=fun N w0 g0 a w hn hc=>h' N w0 g0 a w hn (h N w0 g0 a w hn hc)
theorem Rel.own_full{w:World}{g:Gh}{es:List AV}{cv:Value}{l:Nat}(h:Rel w g (.sl .full es) cv)(hl:l<g.nid)(hb:g.buf l=true)(hwm:g.wm l=es.length):Rel w g (.sl (.own l) es) cv:=by
 cases h with
 |sl _ _ _ A c sz cu hc hcm hsz hA h1 hr hm=>exact .sl _ _ es A c sz cu hc hcm hsz hA h1 hr ⟨hl,hb,by omega,.inr (.inl hm)⟩
theorem Aq.reserve(N0:Nat){e:Af}{S:Ae}(d:Nat){es:List AV}(hd:e d=.sl .full es)(ty:TypeId)(sz:Nat):Aq N0 e S (Aw e d (.sl (.own S.length) es)) (S++[.buf es.length ty sz]):=by
 rintro N w0 g0 a w hn ⟨h1,h2,g,h3,h4,h5⟩
 obtain⟨g',h6,h7,h8,h9,h10⟩:=h3.reserve es.length ty sz;refine⟨h1,h2,g',h6,fun t=>?_,h5.trans h7⟩
 have ht:=(h4 t).le h7.toLe;by_cases htd:t=d
 ·subst htd
  rw[JI];rw[hd]at ht;refine ht.own_full ?_ ?_ ?_
  ·rw[h8,←h3.nid];omega
  ·rw[←h3.nid];exact h9
  ·rw[←h3.nid];exact h10
 ·rw[HV e htd];exact ht
section
variable {P:Program}
theorem UP(S:Ae):SubOk [] S []:=⟨List.nodup_nil,rfl,fun i o hi=>by simp at hi⟩
theorem Yh{rs:List ResultVar}{v:AV}{e:Af}{S:Ae}{vs:List AV}(h:Da P rs e S=some vs)(hk:v.ok 0=true)(hv:Ea vs=v∨(Ea vs).wk=v):Fin P rs 0 v [] e S:=by
 refine⟨e,S,vs,[],Aq.refl 0 e S,h,UP S,rfl,hk,?_⟩
 rw[DG hk (fun i hi=>absurd hi (Nat.not_lt_zero _))]
 exact hv
theorem Ip{rs:List ResultVar}{v:AV}{e:Af}{S:Ae}{vs:List AV}(h:Da P rs e S=some vs)(hk:v.ok 0=true)(hv:Ea vs=v):Dw P rs 0 v [] .ret e S:=Yh h hk (.inl hv)
theorem Zig{rs:List ResultVar}{v:AV}{e:Af}{S:Ae}{vs:List AV}(h:Da P rs e S=some vs)(hk:v.ok 0=true)(hv:(Ea vs).wk=v):Dw P rs 0 v [] .ret e S:=Yh h hk (.inr hv)
theorem Nu{rs:List ResultVar}{v:AV}{e:Af}{S S':Ae}{vs:List AV}{N0:Nat}(κ:List Nat)(h:Da P rs e S=some vs)(hs:SubOk κ S S')(hn:κ.take N0=List.range N0)(hk:v.ok κ.length=true)(hv:Ea vs=v.ren (Az κ)):Dw P rs N0 v S' .ret e S:=
 ⟨e,S,vs,κ,Aq.refl N0 e S,h,hs,hn,hk,.inl hv⟩
theorem Yz{rs:List ResultVar}{v:AV}{e:Af}{S S':Ae}{vs:List AV}{N0:Nat}(e1:Af)(S1:Ae)(hw:Aq N0 e S e1 S1)(κ:List Nat)(h:Da P rs e1 S1=some vs)(hs:SubOk κ S1 S')(hn:κ.take N0=List.range N0)(hk:v.ok κ.length=true)(hv:Ea vs=v.ren (Az κ)):Dw P rs N0 v S' .ret e S:=
 ⟨e1,S1,vs,κ,hw,h,hs,hn,hk,.inl hv⟩
theorem Qz(k k':Nat){S:Ae}{o o':SObj}(hne:k≠k')(ho:o.ok 2=true)(ho':o'.ok 2=true)(h:S[k]? = some (o.ren (Az [k,k'])))(h':S[k']? = some (o'.ren (Az [k,k']))):SubOk [k,k'] S [o,o']:=⟨by simp[hne],rfl,fun i o1 hi=>by
  match i,hi with
  |0,hi=>cases hi;exact⟨ho,h⟩
  |1,hi=>cases hi;exact⟨ho',h'⟩⟩
theorem IU(k:Nat){S:Ae}{o:SObj}(ho:o.ok 1=true)(h:S[k]? = some (o.ren (Az [k]))):SubOk [k] S [o]:=⟨by simp,rfl,fun i o1 hi=>by
  cases i with
  |zero=>cases hi;exact⟨ho,h⟩
  |succ i=>simp at hi⟩
theorem AC.fresh1{f:FuncId}{args:List AV}{v:AV}{o:SObj}(h:AC P f args [] v [o])(ha:args.all (AV.ok 0)=true)(hv:v.ok 1=true)(ho:o.ok 1=true)(T:Ae):
  AC P f args T (v.ren (fun i=>T.length+i)) (T++[o.ren (fun i=>T.length+i)]):=by
 have :=h.frame (T:=T) [] ⟨List.nodup_nil,rfl,fun i o hi=>by simp at hi⟩ ha hv (fun i o1 hi=>by
  cases i with
  |zero=>cases hi;exact ho
  |succ i=>simp at hi)
 rw[EM ha (fun v hv=>DG hv (fun i hi=>absurd hi (Nat.not_lt_zero _)))]at this
 have e:ext [] T.length=fun i=>T.length+i:=by funext i;simp[ext]
 simpa[after,Es,e] using this
end
theorem AC.at1{P:Program}{f:FuncId}{args:List AV}{v:AV}{o o':SObj}{T:Ae}(h:AC P f args [o] v [o'])(l:Nat)(hl:T[l]? = some (o.ren (Az [l])))(ha:args.all (AV.ok 1)=true)(hv:v.ok 1=true)(ho:o.ok 1=true)(ho':o'.ok 1=true):
  AC P f (args.map (AV.ren (Az [l]))) T (v.ren (ext [l] T.length)) (T.set l (o'.ren (ext [l] T.length))):=by
 have :=h.frame (T:=T) [l] ⟨by simp,rfl,fun i o1 hi=>by
  cases i with
  |zero=>cases hi;exact⟨ho,hl⟩
  |succ i=>simp at hi⟩ ha hv (fun i o1 hi=>by
  cases i with
  |zero=>cases hi;exact ho'
  |succ i=>simp at hi)
 simpa[after,Es] using this
theorem Bn{N0:Nat}{B:(AX→Af→Ae→Prop)→Af→Ae→Prop}{Q:AX→Af→Ae→Prop}{e:Af}{S:Ae}(I:Nat→Af→Ae→Prop)(n:Nat)(h0:I n e S)
  (h:∀n e S,I n e S→B (CR Q (H7 N0 I n)) e S):GC N0 B Q e S:=⟨I,⟨n,e,S,Aq.refl N0 e S,h0⟩,h⟩
theorem CG{N0:Nat}{B:(AX→Af→Ae→Prop)→Af→Ae→Prop}{Q:AX→Af→Ae→Prop}{e:Af}{S:Ae}(I:Nat→Af→Ae→Prop)(n:Nat)(e':Af)(S':Ae)(hw:Aq N0 e S e' S')(h0:I n e' S')
  (h:∀n e S,I n e S→B (CR Q (H7 N0 I n)) e S):GC N0 B Q e S:=⟨I,⟨n,e',S',hw,h0⟩,h⟩
theorem As{N0:Nat}{I:Nat→Af→Ae→Prop}{n:Nat}{e:Af}{S:Ae}(n':Nat)(hn:n'<n)(h:I n' e S):H7 N0 I n e S:=⟨n',e,S,hn,Aq.refl N0 e S,h⟩
theorem Xq{α:Type}{c:Prop}[Decidable c](x:α)(h:c):(if c then some x else none)=some x:=if_pos h
theorem Yd{n b:Nat}(h:n*b≤140737488355328)(h':n≤140737488355328):Ct n b=true:=by simp[Ct,h,h']
theorem dT{p:Prop}[Decidable p](h:p):decide p=true:=decide_eq_true h
theorem dF{p:Prop}[Decidable p](h:¬p):decide p=false:=decide_eq_false h
theorem Z6{a b:Int}(h:a=b):(a==b)=true:=by simp[h]
theorem CL{a b:Int}(h:a≠b):(a==b)=false:=by simp[h]
theorem Fw{a b:Int}(h:a≠b):(a !=b)=true:=by simp[h]
theorem Gw{a b:Int}(h:a=b):(a !=b)=false:=by simp[h]
theorem Z4(b:Bool):(b==true)=b:=by cases b<;>rfl
theorem Z5(b:Bool):(b==false) = !b:=by cases b<;>rfl
theorem BM{α:Type}(sz:Nat)(f:α→AV)(h:∀a,(f a).cells.length=sz)(l:List α):AH sz (l.map f)=true:=by
 simp[AH,h]
theorem Zau(l:List (List UInt8)):AH 1 (l.map .st)=true:=BM 1 _ (fun _=>rfl) l
theorem Zat(l:List UInt8):AH 1 (l.map u8)=true:=BM 1 _ (fun _=>rfl) l
theorem Zax(sz:Nat)(l r:List AV):AH sz (l++r)=(AH sz l&&AH sz r):=by simp[AH]
theorem Zaw(sz:Nat)(v:AV)(l:List AV):AH sz (v::l)=(v.cells.length==sz&&AH sz l):=rfl
theorem Zav(sz:Nat):AH sz []=true:=rfl
theorem wrap64{n:Int}(h:-9223372036854775808≤n)(h':n≤9223372036854775807):IntKind.i64.wrap n=n:=by rw[IntKind.wrap_i64];omega
end Pe
namespace Pe
open Go Go.RowKit
variable [Tab]
theorem AC.ofBelow{P:Program}{f:FuncId}{args:List AV}{v:AV}(hcan:NJ P f=true)
  (h:∀(w:World) (g:Gh) (cargs:Array Value),Mr w g→FZ w g args cargs→Calls P f cargs w fun r w'=>∃cv,r=.returned cv∧(∀g',Rel w' g' v cv)∧Below w.heap.size w w'):AC P f args [] v []:=by
 refine⟨hcan,fun w g cargs hw hargs=>?_⟩
 refine(h w g cargs hw.tab hargs).mono ?_
 rintro r w' ⟨cv,rfl,h1,h2⟩
 exact⟨cv,g,rfl,hw.below h2,h1 g,Evo.below g h2⟩
theorem LV{w:World}{g:Gh}{v:AV}{cargs:Array Value}(h:FZ w g [v] cargs):∃cv,cargs = #[cv]∧Rel w g v cv:=by
 obtain⟨h1,h2⟩:=h;have h0:0<cargs.size:=by rw[h1];simp
 refine⟨cargs[0],?_,h2 0 v _ rfl (Array.getElem?_eq_getElem h0)⟩
 apply Array.ext
 ·simpa using h1
 ·intro i hi hi'
  have:i=0:=by simp at h1;omega
  subst this;rfl
theorem M6{w:World}{g:Gh}{l:List UInt8}{cargs:Array Value}(h:FZ w g [.st l] cargs):cargs = #[.string ⟨l.toArray⟩]:=by
 obtain⟨cv,rfl,hr⟩:=LV h;cases hr
 rfl
end Pe
namespace Pe
open Go
set_option maxRecDepth 100000
theorem Mw:
  (type_of% @Za9) ∧
  (type_of% @Zbc) ∧
  (type_of% @Zba) ∧
  (type_of% @Zbh) ∧
  (type_of% @Zbi) ∧
  (type_of% @Zbf) ∧
  (type_of% @Zbg) ∧
  (type_of% @Zbb) ∧
  (type_of% @UD) ∧
  (type_of% @UC) ∧
  (type_of% @UE) ∧
  (type_of% @ZN) ∧
  (type_of% @ZM) ∧
  (type_of% @ZL) ∧
  (type_of% @ZO) ∧
  (type_of% @Zbk) ∧
  (type_of% @Zbm) ∧
  (type_of% @Zbj) ∧
  (type_of% @Zbl) ∧
  (type_of% @Zbw) ∧
  (type_of% @ZbS) ∧
  (type_of% @ZbD) ∧
  (type_of% @Zbq) ∧
  (type_of% @ZbQ) ∧
  (type_of% @ZbU) ∧
  (type_of% @ZbE) ∧
  (type_of% @ZbB) ∧
  (type_of% @ZbJ) ∧
  (type_of% @Zbp) ∧
  (type_of% @ZbT) ∧
  (type_of% @ZbF) ∧
  (type_of% @Zby) ∧
  (type_of% @Zbz) ∧
  (type_of% @Zbt) ∧
  (type_of% @Zbu) ∧
  (type_of% @ZbR) ∧
  (type_of% @ZaR) ∧
  (type_of% @ZaX) ∧
  (type_of% @ZaS) ∧
  (type_of% @ZaY) ∧
  (type_of% @ZaZ) ∧
  (type_of% @ZaT) ∧
  (type_of% @ZaW) ∧
  (type_of% @ZaV) ∧
  (type_of% @ZaU) ∧
  (type_of% @Zbo) ∧
  (type_of% @ZbK) ∧
  (type_of% @Zbr) ∧
  (type_of% @ZbL) ∧
  (type_of% @ZbM) ∧
  (type_of% @ZbH) ∧
  (type_of% @ZbI) ∧
  (type_of% @ZbN) ∧
  (type_of% @ZbP) ∧
  (type_of% @ZbO) ∧
  (type_of% @Zbx) ∧
  (type_of% @ZbG) ∧
  (type_of% @ZbA) ∧
  (type_of% @ZbC) ∧
  (type_of% @Zbs) ∧
  (type_of% @Zbv) ∧
  (type_of% @Yp) ∧
  (type_of% @Ys) ∧
  (type_of% @Yq) ∧
  (type_of% @Yr) ∧
  (type_of% @Rj) ∧
  (type_of% @VU) ∧
  (type_of% @Qp) ∧
  (type_of% @TN) ∧
  (type_of% @TO) ∧
  (type_of% @Zd) ∧
  (type_of% @Zb) ∧
  (type_of% @Y7) ∧
  (type_of% @Y9) ∧
  (type_of% @Y8) ∧
  (type_of% @Zc) ∧
  (type_of% @Za):=
 ⟨@Za9,@Zbc,@Zba,@Zbh,@Zbi,@Zbf,@Zbg,@Zbb,@UD,@UC,@UE,@ZN,@ZM,@ZL,@ZO,@Zbk,@Zbm,@Zbj,@Zbl,@Zbw,@ZbS,@ZbD,@Zbq,@ZbQ,@ZbU,@ZbE,@ZbB,@ZbJ,@Zbp,@ZbT,@ZbF,@Zby,@Zbz,@Zbt,@Zbu,@ZbR,@ZaR,@ZaX,@ZaS,@ZaY,@ZaZ,@ZaT,@ZaW,@ZaV,@ZaU,@Zbo,@ZbK,@Zbr,@ZbL,@ZbM,@ZbH,@ZbI,@ZbN,@ZbP,@ZbO,@Zbx,@ZbG,@ZbA,@ZbC,@Zbs,@Zbv,@Yp,@Ys,@Yq,@Yr,@Rj,@VU,@Qp,@TN,@TO,@Zd,@Zb,@Y7,@Y9,@Y8,@Zc,@Za⟩
theorem Mx:
  (type_of% @Zj) ∧
  (type_of% @Zi) ∧
  (type_of% @Zh) ∧
  (type_of% @Ze) ∧
  (type_of% @ZY) ∧
  (type_of% @List.take_length.{0}) ∧
  (type_of% @ZaN) ∧
  (type_of% @ZaM) ∧
  (type_of% @ZaL) ∧
  (type_of% @ZaO) ∧
  (type_of% @WW) ∧
  (type_of% @false_and) ∧
  (type_of% @Wr) ∧
  (type_of% @Wl) ∧
  (type_of% @Wk) ∧
  (type_of% @ZZ) ∧
  (type_of% @ZV) ∧
  (type_of% @ZW) ∧
  (type_of% @Z2) ∧
  (type_of% @ZT) ∧
  (type_of% @ZX) ∧
  (type_of% @Z0) ∧
  (type_of% @XR) ∧
  (type_of% @Wc) ∧
  (type_of% @wrap64) ∧
  (type_of% @Xq) ∧
  (type_of% @Yd) ∧
  (type_of% @Z4) ∧
  (type_of% @Z5) ∧
  (type_of% @dT) ∧
  (type_of% @dF) ∧
  (type_of% @Z6) ∧
  (type_of% @CL) ∧
  (type_of% @Fw) ∧
  (type_of% @Gw) ∧
  (type_of% @Xr) ∧
  (type_of% @Xt) ∧
  (type_of% @Xs) ∧
  (type_of% @Xu) ∧
  (type_of% @Zk) ∧
  (type_of% @X7) ∧
  (type_of% @X6) ∧
  (type_of% @We) ∧
  (type_of% @Bool.or_true) ∧
  (type_of% @Bool.true_or) ∧
  (type_of% @Bool.or_false) ∧
  (type_of% @Bool.false_or) ∧
  (type_of% @decide_true) ∧
  (type_of% @decide_false) ∧
  (type_of% @Bool.not_true) ∧
  (type_of% @Bool.not_false) ∧
  (type_of% @Bool.true_and) ∧
  (type_of% @Bool.and_true) ∧
  (type_of% @Bool.false_and) ∧
  (type_of% @Bool.and_false) ∧
  (type_of% @beq_self_eq_true.{0}) ∧
  (type_of% @List.map_cons.{0,0}) ∧
  (type_of% @List.map_nil.{0,0}) ∧
  (type_of% @List.nil_append.{0}) ∧
  (type_of% @List.append_nil.{0}) ∧
  (type_of% @List.cons_append.{0}) ∧
  (type_of% @List.length_nil.{0}) ∧
  (type_of% @List.length_cons.{0}) ∧
  (type_of% @List.length_map.{0,0}) ∧
  (type_of% @List.length_append.{0}) ∧
  (type_of% @List.getElem?_cons_zero.{0}) ∧
  (type_of% @List.getElem?_cons_succ.{0}) ∧
  (type_of% @List.getElem?_nil.{0}) ∧
  (type_of% @List.getElem?_toArray.{0}) ∧
  (type_of% @List.set_cons_zero.{0}) ∧
  (type_of% @List.set_cons_succ.{0}) ∧
  (type_of% @List.contains_cons.{0}) ∧
  (type_of% @List.contains_nil.{0}) ∧
  (type_of% @List.elem_nil.{0}) ∧
  (type_of% @Zau) ∧
  (type_of% @Zat) ∧
  (type_of% @Zax) ∧
  (type_of% @Zaw) ∧
  (type_of% @Zav) ∧
  (type_of% @List.getElem?_map.{0,0}) ∧
  (type_of% @Mi) ∧
  (type_of% @List.range'_succ) ∧
  (type_of% @List.range'_zero) ∧
  (type_of% @List.cons.injEq.{0}) ∧
  (type_of% @List.take_succ_cons.{0}) ∧
  (type_of% @List.take_zero.{0}) ∧
  (type_of% @List.drop_succ_cons.{0}) ∧
  (type_of% @List.drop_zero.{0}) ∧
  (type_of% @List.take_nil.{0}) ∧
  (type_of% @List.drop_nil.{0}) ∧
  (type_of% @Option.map_some.{0,0}) ∧
  (type_of% @Option.map_none.{0,0}) ∧
  (type_of% @Option.isSome_some.{0}) ∧
  (type_of% @Option.isNone_none.{0}) ∧
  (type_of% @Option.all_some.{0}) ∧
  (type_of% @and_self) ∧
  (type_of% @and_true) ∧
  (type_of% @true_and) ∧
  (type_of% @ne_eq.{0}) ∧
  (type_of% @not_true_eq_false) ∧
  (type_of% @not_false_eq_true) ∧
  (type_of% @Bool.false_eq_true) ∧
  (type_of% @Nat.zero_add) ∧
  (type_of% @Nat.add_zero) ∧
  (type_of% @Int.toNat_natCast) ∧
  (type_of% @Nat.zero_le) ∧
  (type_of% @Nat.le_refl) ∧
  (type_of% @List.all_cons.{0}) ∧
  (type_of% @List.all_nil.{0}) ∧
  (type_of% @Nat.not_lt_zero) ∧
  (type_of% @true_implies) ∧
  (type_of% @forall_const.{0}):=
 ⟨@Zj,@Zi,@Zh,@Ze,@ZY,@List.take_length,@ZaN,@ZaM,@ZaL,@ZaO,@WW,@false_and,@Wr,@Wl,@Wk,@ZZ,@ZV,@ZW,@Z2,@ZT,@ZX,@Z0,@XR,@Wc,@wrap64,@Xq,@Yd,@Z4,@Z5,@dT,@dF,@Z6,@CL,@Fw,@Gw,@Xr,@Xt,@Xs,@Xu,@Zk,@X7,@X6,@We,@Bool.or_true,@Bool.true_or,@Bool.or_false,@Bool.false_or,@decide_true,@decide_false,@Bool.not_true,@Bool.not_false,@Bool.true_and,@Bool.and_true,@Bool.false_and,@Bool.and_false,@beq_self_eq_true,@List.map_cons,@List.map_nil,@List.nil_append,@List.append_nil,@List.cons_append,@List.length_nil,@List.length_cons,@List.length_map,@List.length_append,@List.getElem?_cons_zero,@List.getElem?_cons_succ,@List.getElem?_nil,@List.getElem?_toArray,@List.set_cons_zero,@List.set_cons_succ,@List.contains_cons,@List.contains_nil,@List.elem_nil,@Zau,@Zat,@Zax,@Zaw,@Zav,@List.getElem?_map,@Mi,@List.range'_succ,@List.range'_zero,@List.cons.injEq,@List.take_succ_cons,@List.take_zero,@List.drop_succ_cons,@List.drop_zero,@List.take_nil,@List.drop_nil,@Option.map_some,@Option.map_none,@Option.isSome_some,@Option.isNone_none,@Option.all_some,@and_self,@and_true,@true_and,@ne_eq,@not_true_eq_false,@not_false_eq_true,@Bool.false_eq_true,@Nat.zero_add,@Nat.add_zero,@Int.toNat_natCast,@Nat.zero_le,@Nat.le_refl,@List.all_cons,@List.all_nil,@Nat.not_lt_zero,@true_implies,@forall_const⟩
end Pe
end
end Go.Proofs.YtchpmmjmimaigaaGreatDoor
