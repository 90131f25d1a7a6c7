import Derived.Test.YtchpmmjmimaigaaGreatDoorKh17
import Derived.Lib.DecodeN
set_option linter.unusedSectionVars false
set_option linter.unusedVariables false
set_option linter.unusedSimpArgs false
namespace Go.Proofs.YtchpmmjmimaigaaGreatDoor
section
namespace Pe
open Tryz
open Go Go.RowKit
set_option maxRecDepth 100000
set_option maxHeartbeats 4000000
theorem UN[Tab]{S T:Ae}(n:Nat)(hT:T.take n=S)(hn:S.length=n)(h:S.all (SObj.ok n)=true):SubOk (List.range n) T S:=by
 have hid:∀j,j<n→Az (List.range n) j=j:=fun j hj=>by simp[Az,hj]
 refine⟨List.nodup_range,by simpa using hn,fun i o hi=>?_⟩
 have hlt:=(List.getElem?_eq_some_iff.1 hi).1
 have ho:=List.all_eq_true.1 h o (List.mem_of_getElem? hi);rw[List.length_range];refine⟨ho,?_⟩
 rw[Ly ho hid,hid i (by omega),←hi,←hT,List.getElem?_take,if_pos (by omega)]
variable [Tab]
section
variable {P:Program} {pf rf:List FuncId}
def Z8(N0 l:Nat)(o:LoopState→SObj)(bdy:Code)(S':Ae):AX→Af→Ae→Prop
 |.exit i=>fun e S=>Jg bdy=some (.exit i) ∧ ∃e1 S1 κ,Aq N0 e S e1 S1∧S1[l]? = some (o .busy)∧SubOk κ (S1.set l (o .done)) S'∧κ.take N0=List.range N0
 |_=>fun _ _=>False
theorem CO.of_wpX{b D:Nat}{fn:FuncId}{es args:List AV}{ps:Array Tmp}{asn bdy:Code}{S S':Ae}(pf rf:List FuncId)(l:Nat)(hl:S[l]? = some (.loop b D fn es ps asn bdy .ready))(hlen:args.length=ps.size)(hps:∀p∈ps.toList,p<es.length)
  (hm:P.follows .mixedOrders=true)(hoa:Dx P pf rf es.length asn=true)(hra:DN asn=true)(B:Af→Ae→Prop)
  (hB:∀(w0:World) (g0:Gh) (e:Af) (T:Ae) (a:Act) (w:World),g0.nid=S.length→AP es.length w0 g0 e T a w→B e T→bdy.wpIn (wR (some b)) 0 P (EW es.length w0 g0 (Z8 S.length l (.loop b D fn es ps asn bdy) bdy S')) a w)
  (h:AW P pf rf S.length (Cm asn) (NP l (.loop b D fn es ps asn bdy) B) (Gb (BH es) ps.toList args) S):CO P b args S (.bo false) S':=by
 intro w g cargs hw hargs;obtain⟨tm,b5,b6,b7,_⟩:=LW hw hl;have hsz:cargs.size=ps.size:=by rw[hargs.1,hlen]
 have hfold:(ps.zip cargs).foldl (fun tmps (t,a)=>tmps.setIfInBounds t a) tm=(ps.toList.zip cargs.toList).foldl (fun t p=>t.setIfInBounds p.1 p.2) tm:=by
  rw[←Array.foldl_toList,Array.toList_zip]
 refine⟨fn,_,asn,bdy,run_yield b5 hsz,?_⟩
 have hE0:CZ w g (BH es) { tmps:=tm,defers:=[] }:=fun t=>by
  show Rel w g (es.getD t .junk) (tm.getD t undef)
  rw[List.getD_eq_getElem?_getD]
  cases ht:es[t]? with
  |none=>exact .junk _ _
  |some u=>
   have hlt:t<tm.size:=by rw[b6];exact(List.getElem?_eq_some_iff.1 ht).1
   have h1:tm[t]? = some tm[t]:=Array.getElem?_eq_getElem hlt
   rw[Array.getD_eq_getD_getElem?,h1];exact b7 t u _ ht h1
 obtain⟨hE1,hsz1⟩:=Rk ps.toList args cargs.toList (BH es) { tmps:=tm,defers:=[] } (by simpa using hlen) (by simpa using hsz) (fun j u x hu hx=>hargs.2 j u x hu (by simpa using hx)) (fun p hp=>by show p<tm.size;rw[b6];exact hps p hp) hE0
 refine roundIn_of_wpIn (F:=Fence.wide) (n:=0) trivial ?_
 simp only at hE1 hsz1
 rw[←hfold]at hE1 hsz1;have hc:AP es.length w g (Gb (BH es) ps.toList args) S { tmps:=(ps.zip cargs).foldl (fun tmps (t,a)=>tmps.setIfInBounds t a) tm,defers:=[] } w:=⟨hsz1.trans b6,trivial,g,hw,hE1,.none (Evo.refl w g)⟩
 have ha:=N2 (some b) (.inr hra) hm hw.nid _ _ S _ w hoa hc h;refine Go.wpIn_mono (F:=Fence.wide.inRound b) ha ?_
 intro ex a1 w1 hq;cases ex with
 | normal=>
  obtain⟨e1,S1,⟨c1,_,g1,c2,c3,c4⟩,hl1,hbd⟩:=hq;obtain⟨tm1,d5,_,_,d8⟩:=LW c2 hl1;obtain⟨d9,d10⟩:=d8 .busy;refine⟨_,run_beginRound d5 rfl,?_⟩
  have hc1:AP es.length w g e1 (S1.set l (.loop b D fn es ps asn bdy .busy)) a1 (w1.putObj b (.loop { state:=.busy,pending:=none,fn,tmps:=tm1,params:=ps,assign:=asn,body:=bdy,defers:=D })):=⟨c1,trivial,g1,d9,fun t=>(c3 t).le d10.toLe,c4.trans d10⟩
  have hb:=hB _ _ _ _ _ _ hw.nid hc1 hbd;refine Go.wpIn_mono (F:=Fence.wide.inRound b) hb ?_
  intro ex2 a2 w2 hq2;cases ex2 with
  |exit i=>
   obtain⟨e2,S2,hc2,hx,e3,S3,κ,k0,k1,k2,k3⟩:=hq2;obtain⟨_,_,g3,m1,m2,m3⟩:=k0 es.length w g a2 w2 hw.nid hc2;obtain⟨tm3,n1,_,_,n4⟩:=LW m1 k1;obtain⟨n5,n6⟩:=n4 .done;have hp:JV .done bdy=some (.exit i):=hx;rw[hp]at n5 n6;refine⟨_,_,run_endRound (some (.exit i)) n1,.bool false,g3.sub κ,rfl,n5.sub k2,.bo _ _,?_⟩
   exact(m3.toEvo.trans n6).sub k2.nodup (k2.lt n5) (by rw[hw.nid];exact k3)
  |normal=>obtain⟨_,_,_,q⟩:=hq2;exact q.elim
  |ret=>obtain⟨_,_,_,q⟩:=hq2;exact q.elim
  |_=>exact hq2.elim
 |exit i=>obtain⟨_,_,_,q⟩:=hq;exact q.elim
 |ret=>obtain⟨_,_,_,q⟩:=hq;exact q.elim
 |_=>exact hq.elim
theorem CO.enterBX{b D:Nat}{fn:FuncId}{es args:List AV}{ps:Array Tmp}{asn bdy:Code}{S S':Ae}(pf rf:List FuncId)(l:Nat)(hl:S[l]? = some (.loop b D fn es ps asn bdy .ready))(hlen:args.length=ps.size)(hps:∀p∈ps.toList,p<es.length)
  (hm:P.follows .mixedOrders=true)(hoa:Dx P pf rf es.length asn=true)(hob:E7 P pf rf es.length bdy=true)(hra:DN asn=true)
  (h:AW P pf rf S.length (Cm asn) (NP l (.loop b D fn es ps asn bdy) (AW P pf rf S.length (Cm bdy) (Z8 S.length l (.loop b D fn es ps asn bdy) bdy S'))) (Gb (BH es) ps.toList args) S):CO P b args S (.bo false) S':=
 CO.of_wpX pf rf l hl hlen hps hm hoa hra _ (fun w0 g0 e T a w hn hc hb=>P8 hm hn _ _ _ _ _ _ hob hc hb) h
theorem CO.enterB{b D:Nat}{fn:FuncId}{es args:List AV}{ps:Array Tmp}{asn bdy:Code}{S S':Ae}(pf rf:List FuncId)(l:Nat)(hl:S[l]? = some (.loop b D fn es ps asn bdy .ready))(hlen:args.length=ps.size)(hps:∀p∈ps.toList,p<es.length)
  (hm:P.follows .mixedOrders=true)(hoa:Dx P pf rf es.length asn=true)(hob:E7 P pf rf es.length bdy=true)(hra:DN asn=true)
  (h:AW P pf rf S.length (Cm asn) (NP l (.loop b D fn es ps asn bdy) (AW P pf rf S.length (Cm bdy) (TG S.length l (.loop b D fn es ps asn bdy) S'))) (Gb (BH es) ps.toList args) S):CO P b args S (.bo true) S':=
 CO.of_wp pf rf l hl hlen hps hm hoa hra _ (fun w0 g0 e T a w hn hc hb=>P8 hm hn _ _ _ _ _ _ hob hc hb) h
end
section
variable {P:Program} {N N0:Nat} {Q:AX→Af→Ae→Prop} {e:Af} {S:Ae}
def Qa(P:Program)(N:Nat)(g:Operand)(ps:Array Tmp)(asn bdy:Code)(K:Af→Ae→Prop)(e:Af)(S:Ae):Prop:=
 match ev e g with
 |.fn (.func f) fa ca=>∃v S' U,S'.length=S.length∧(∀b D fn,AC P f (fa++[.fn (.yield b) [] []]++ca) (S++[.loop b D fn (Bb N e) ps asn bdy .ready]) v (S'++.loop b D fn (Bb N e) ps asn bdy .done::U))∧K e (S'++.dead::U)
 |_=>False
theorem HW.rangeX{g:Operand}{ps:Array Tmp}{asn bdy:Code}(i:Nat)(hx:Jg bdy=some (.exit i))(h:Qa P N g ps asn bdy (Q (.exit i)) e S):HW P N N0 (.rangeFunc g ps asn bdy) Q e S:=fun w0 g0 a w _ hc=>by
 obtain⟨hsz,_,gh,hw,he,hD⟩:=hc;unfold Qa at h;split at h
 ·rename_i f fa ca hf
  obtain⟨v,S',U,hlen,hac,hK⟩:=h;refine wpIn_rangeFunc fun fn _=>?_
  have hgv:=Ka he g;rw[hf]at hgv;generalize hcf:a.eval g=cf at hgv;cases hgv with
  | fn _ _ _ _ fav cav hfs hcs hrf hrc=>
   have hB:Below w.heap.size w (w.alloc (.deferred (some []))):=(Below.refl _ w).alloc (Nat.le_refl _) _;have hw1:=hw.below hB;have hE1:=Evo.below gh hB;have hsz1:(w.alloc (.deferred (some []))).heap.size=w.heap.size+1:=by simp
   let r:Loop:={ state:=.ready,pending:=none,fn,tmps:=a.tmps,params:=ps,assign:=asn,body:=bdy,defers:=w.heap.size }
   have hpush:=hw1.alloc_push (.loop r) false 0 0 0 (o:=.loop (w.heap.size+1) w.heap.size fn (Bb N e) ps asn bdy .ready) (by
    refine⟨by simp[Gh.push],by simp[Gh.push],by simp[Gh.push],by simp[Gh.push],a.tmps,?_,by simp[Bb,hsz],?_⟩
    ·simp only[Gh.push,if_true]
     exact World.alloc_heap_new _ _
    ·have :=Yx (he.le (hE1.toLe.trans (Le.push_new _ gh (.loop r) false 0 0 0)))
     rw[hsz]at this;exact this)
   obtain⟨hw2,hE2⟩:=hpush;have hE:=hE1.trans hE2;have hfb:(Instr.enterLoop fn a.tmps ps asn bdy (wR none).round).run P w=.ok (w.heap.size+1,[{ target:=.collected w.heap.size,args:= #[] }]) ((w.alloc (.deferred (some []))).alloc (.loop r)):=run_enterLoop_outer fn a.tmps ps asn bdy;have hres:∀w',(resolve a.eval (rangeCall g (w.heap.size+1)) 0).run P w'=.ok { target:=.fn (.func f) cav,args:=fav ++ #[.func (.yield (w.heap.size+1)) #[] #[]] } w':=fun w'=>by
    simp only[resolve,rangeCall,hcf,Deferred.ofValue,Sem.run_bind,Sem.run_pure,Result.andThen_ok,List.map_toArray,List.map_cons,List.map_nil];rfl
   have hac':=hac (w.heap.size+1) w.heap.size fn;refine⟨w.heap.size+1,_,_,_,_,f,fav ++ #[.func (.yield (w.heap.size+1)) #[] #[]]++cav,(w.alloc (.deferred (some []))).alloc (.loop r),hfb,hres _,fun _ _=>trivial,?_,fun q=>by simp[wR,Fence.wide]at q,?_⟩
   ·simp only[invoke]
    exact QX hac'.can _ _
   ·have hyl:∀w' g',Rel w' g' (.fn (.yield (w.heap.size+1)) [] []) (.func (.yield (w.heap.size+1)) #[] #[]):=fun w' g'=>.fn g' (.yield (w.heap.size+1)) [] [] #[] #[] rfl rfl (by simp) (by simp)
    have hargs:FZ ((w.alloc (.deferred (some []))).alloc (.loop r)) (gh.push (w.alloc (.deferred (some []))).heap.size false 0 0 0) (fa++[.fn (.yield (w.heap.size+1)) [] []]++ca) (fav ++ #[.func (.yield (w.heap.size+1)) #[] #[]]++cav):=by
     refine⟨by simp[hfs,hcs];omega,fun j u x hu hx=>?_⟩
     have hx':(fav.toList++[.func (.yield (w.heap.size+1)) #[] #[]]++cav.toList)[j]? = some x:=by
      rw[←hx,←Array.getElem?_toList]
      simp
     have l1:fav.toList.length=fa.length:=by simpa using hfs
     rw[List.append_assoc,List.getElem?_append]at hu hx'
     rw[l1]at hx';split at hu
     ·rename_i h1
      rw[if_pos h1]at hx';exact(hrf j u x hu (by simpa using hx')).le hE.toLe
     ·rename_i h1
      rw[if_neg h1]at hx';cases hj:j-fa.length with
      |zero=>
       rw[hj]at hu hx';simp at hu hx'
       subst hu;subst hx';exact hyl _ _
      |succ m=>
       rw[hj]at hu hx';simp at hu hx'
       exact(hrc m u x hu (by simpa using hx')).le hE.toLe
    refine(Tw (hac'.run _ _ _ hw2 hargs) none _).mono ?_
    rintro r' w3 ⟨cv,g3,rfl,hw3,_,hE3⟩
    have hl3:(S'++.loop (w.heap.size+1) w.heap.size fn (Bb N e) ps asn bdy .done::U)[S.length]? = some (.loop (w.heap.size+1) w.heap.size fn (Bb N e) ps asn bdy .done):=by
     rw[←hlen,List.getElem?_append_right (Nat.le_refl _),Nat.sub_self];rfl
    obtain⟨b1,b2,b3,b4,tm,b5,b6,b7⟩:=hw3.obj _ _ hl3;rw[b4]at b5;have hp:JV .done bdy=some (.exit i):=hx;rw[hp]at b5;refine⟨some (.exit i),_,run_endLoop b5 (by simp),?_⟩
    have hput:=hw3.put (o:=.dead) (ob:=.loop { state:=.exhausted,pending:=some (.exit i),fn,tmps:=tm,params:=ps,assign:=asn,body:=bdy,defers:=w.heap.size }) (List.getElem?_eq_some_iff.1 hl3).1 b2 b3 trivial
    obtain⟨hw4,hE4⟩:=hput;rw[b4]at hw4 hE4;have E3:(S'++SObj.loop (w.heap.size+1) w.heap.size fn (Bb N e) ps asn bdy .done::U).set S.length .dead=S'++.dead::U:=by
     rw[←hlen,List.set_append_right _ _ (Nat.le_refl _),Nat.sub_self];rfl
    rw[E3]at hw4;have hEall:=(hE.trans hE3).trans hE4;refine wpIn_exit ⟨e,S'++.dead::U,⟨hsz,trivial,g3,hw4,he.le hEall.toLe,?_⟩,hK⟩
    have hD':=hD.trans hEall;refine⟨hD'.toEvo,fun d hd=>?_,?_⟩
    ·simp only[List.cons_append,List.nil_append,List.mem_cons]at hd
     rcases hd with rfl|hd
     ·have hno:∀l,l<(gh.push (w.alloc (.deferred (some []))).heap.size false 0 0 0).nid → ¬(gh.push (w.alloc (.deferred (some []))).heap.size false 0 0 0).own l w.heap.size:=by
       intro l hl ho;simp only[Gh.push,hsz1]at hl ho;split at ho
       ·omega
       ·have :=hw.lt l _ (by omega) ho
        omega
      have hlt2:w.heap.size<((w.alloc (.deferred (some []))).alloc (.loop r)).heap.size:=by simp;omega
      have hE34:=hE3.trans hE4;refine⟨w.heap.size,rfl,hD.size,Nat.lt_of_lt_of_le hlt2 hE34.size,?_,fun l hl ho=>?_⟩
      ·exact(hE34.old _ hlt2 hno).trans ((hE2.old _ (by simp) (fun l hl ho=>by have :=hw.lt l _ hl ho;omega)).trans (World.alloc_heap_new _ _))
      ·have :=hE34.own l _ hl ho hlt2
       exact hno l this.1 this.2
     ·exact hD'.defs d hd
    ·simp only[List.cons_append,List.nil_append,List.map_cons,List.nodup_cons]
     refine⟨fun hm=>?_,hD.nodup⟩
     obtain⟨d,hd,hdt⟩:=List.mem_map.1 hm;obtain⟨b,q1,_,q3,_⟩:=hD.defs d hd;rw[hdt]at q1;cases q1
     omega
 ·exact h.elim
theorem Zle{g:Operand}{ps:Array Tmp}{asn bdy:Code}{K:Af→Ae→Prop}{f:FuncId}{fa ca:List AV}(hg:ev e g=.fn (.func f) fa ca)(v:AV)(S' U:Ae)(hl:S'.length=S.length)
  (hac:∀b D fn,AC P f (fa++[.fn (.yield b) [] []]++ca) (S++[.loop b D fn (Bb N e) ps asn bdy .ready]) v (S'++.loop b D fn (Bb N e) ps asn bdy .done::U))(hK:K e (S'++.dead::U)):Qa P N g ps asn bdy K e S:=by
 unfold Qa;rw[hg];exact⟨v,S',U,hl,hac,hK⟩
end
end Pe
end
section
namespace Pe
open Tryz
open Go Go.RowKit
variable [Tab]
section
variable {N0:Nat} {B:(AX→Af→Ae→Prop)→Af→Ae→Prop} {Q:AX→Af→Ae→Prop} {e:Af} {S:Ae}
def KO(N0:Nat)(B:(AX→Af→Ae→Prop)→Af→Ae→Prop)(Q:AX→Af→Ae→Prop)(n:Nat)(e:Af)(S:Ae):Prop:=
 B (CR Q fun e1 S1=>∃n' e' S',∃_:n'<n,Aq N0 e1 S1 e' S'∧KO N0 B Q n' e' S') e S
termination_by n
theorem Qr(n:Nat)(e:Af)(S:Ae):KO N0 B Q n e S=B (CR Q (H7 N0 (KO N0 B Q) n)) e S:=by
 rw[KO];congr 2
 funext e1 S1
 exact propext ⟨fun⟨n',e',S',h,w,u⟩=>⟨n',e',S',h,w,u⟩,fun⟨n',e',S',h,w,u⟩=>⟨n',e',S',h,w,u⟩⟩
theorem Dr(n:Nat)(h:∀R:Nat→Af→Ae→Prop,(∀k e S,B (CR Q (R k)) e S→R (k+1) e S)→B (CR Q (R n)) e S):GC N0 B Q e S:=
 ⟨KO N0 B Q,⟨n,e,S,Aq.refl N0 e S,by
  rw[Qr];exact h (H7 N0 (KO N0 B Q)) fun k e S hk=>⟨k,e,S,Nat.lt_succ_self k,Aq.refl N0 e S,by rw[Qr];exact hk⟩⟩,fun n e S h=>by rwa[Qr]at h⟩
end
end Pe
end
section
namespace Ac
open Tryz
open Go Co Sg
def Gn(b:UInt8):Bool:=(decide (48≤b.toNat)&&decide (b.toNat≤57))||(decide (97≤b.toNat)&&decide (b.toNat≤102))
def Bg(s:By):Bool:=decide (s.length=16)&&s.all Gn
def Df(b:UInt8):Bool:=decide (97≤b.toNat)&&decide (b.toNat≤122)
def DO(b:UInt8):Bool:=Df b||(decide (48≤b.toNat)&&decide (b.toNat≤57))||decide (b.toNat=95)
def Cq:By→Bool
 |[]=>false
 |c::r=>decide (r.length≤23)&&Df c&&r.all DO
def Kv:List By→Bool
 |a::b::r=>!(Op.bytesLess b a||b==a)&&Kv (b::r)
 |_=>true
def CI(l:List By):Bool:=decide (l.length≤64)&&l.all Bg&&Kv l
structure Box where
 nonce:By
 data:By
 tag:By
 deriving DecidableEq
structure Wrap where
 to:Int
 eph:Int
 box:Box
 deriving DecidableEq
structure Act where
 author:By
 seq:Int
 prev:By
 kind:Int
 time:Int
 object:By
 target:By
 scope:Int
 group:By
 to:List By
 text:By
 body:Box
 epoch:Int
 wraps:List Wrap
 n:Int
 m:Int
 sig:Sig
 deriving DecidableEq
def Cd:Box:=⟨[],[],[]⟩
def A0:Sig:=⟨0,0⟩
def act0:Act:=⟨[],0,[],0,0,[],[],0,[],[],[],Cd,0,[],0,0,A0⟩
def wi(n lo hi:Int):Bool:=decide (lo≤n)&&decide (n≤hi)
theorem Ch{n lo hi:Int}:wi n lo hi=true↔lo≤n∧n≤hi:=by simp[wi]
def dig(s:By):Bool:=decide (s.length=32)
def De(s:By):Bool:=decide (s.length≤500)
def pub(n:Int):Bool:=wi n 1 2305843009213693950
def EX(b:Box):Bool:=decide (b.nonce.length=32)&&decide (b.tag.length=16)&&De b.data
def CQ(w:Wrap):Bool:=pub w.to&&pub w.eph&&EX w.box
def FD(a:Act):Bool:=a.wraps.all CQ&&decide (a.wraps.length=a.to.length)
def GM(scope:Int)(group:By):Bool:=if scope=2 then Cq group else if scope=1∨scope=3 then decide (group=[])else false
def ES(a:Act):Bool:=
 CI a.to&&(if a.scope=0 then decide (a.group=[])&&decide (a.epoch=0)&&De a.text&&decide (a.body=Cd)
  else(decide (a.to=[])||decide (a.scope=3))&&GM a.scope a.group&&wi a.epoch 0 1073741824&&decide (a.text=[])&&EX a.body)
def home(a:Act):Bool:=pub a.n&&wi a.m 0 19
def grant(a:Act):Bool:=GM a.scope a.group&&wi a.epoch 0 1073741824&&CI a.to&&FD a
def label(a:Act):Bool:=Cq a.text&&((dig a.object&&decide (a.target=[]))||(Bg a.target&&decide (a.object=[])))
def setup(a:Act):Bool:=decide (0<a.to.length)&&CI a.to&&FD a&&wi a.n 1 a.to.length&&pub a.m
def BB(z:Bool)(f s:Int):Int:=if z then s else Go.bits .or .i64 s f
def JH(a:Act):Int:=
 BB (decide (a.m=0)) 1024 <| BB (decide (a.n=0)) 512 <| BB (decide (a.wraps=[])) 256 <| BB (decide (a.epoch=0)) 128 <| BB (decide (a.body=Cd)) 64 <|
 BB (decide (a.text=[])) 32 <| BB (decide (a.to=[])) 16 <| BB (decide (a.group=[])) 8 <| BB (decide (a.scope=0)) 4 <| BB (decide (a.target=[])) 2 <| BB (decide (a.object=[])) 1 0
inductive Ru where
 |begin|post|reply|about|tie|reason|circle|grant|label|move|setup|judge|list
 deriving DecidableEq
def Ru.mask:Ru→Int
 |.begin=>1568
 |.post=>252
 |.reply=>253
 |.about=>1
 |.tie=>2
 |.reason=>33
 |.circle=>24
 |.grant=>412
 |.label=>35
 |.move=>1536
 |.setup=>1808
 |.judge=>513
 |.list=>546
def Ru.ok(a:Act):Ru→Bool
 |.begin=>Cq a.text&&home a
 |.post=>ES a
 |.reply=>dig a.object&&ES a
 |.about=>dig a.object
 |.tie=>Bg a.target
 |.reason=>dig a.object&&De a.text
 |.circle=>Cq a.group&&CI a.to
 |.grant=>Ac.grant a
 |.label=>Ac.label a
 |.move=>home a
 |.setup=>Ac.setup a
 |.judge=>dig a.object&&wi a.n 0 1
 |.list=>Bg a.target&&De a.text&&wi a.n 0 1099511627776
def LJ:List (Int×Ru):=[(0,.begin),(1,.post),(2,.reply),(3,.reply),(14,.reply),(4,.about),(5,.about),(6,.about),(13,.about),(20,.about),(7,.tie),(8,.tie),(9,.tie),(10,.tie),(11,.tie),(12,.reason),(21,.reason),(15,.circle),(16,.grant),(17,.label),(18,.move),(19,.setup),(22,.judge),(23,.list)]
def F7(k:Int):Option Ru:=LJ.lookup k
def C5(a:Act):Bool:=if a.seq=0 then decide (a.kind=0)&&decide (a.prev=[])else wi a.seq 1 1073741824&&decide (a.kind≠0)&&dig a.prev
def Bu(s:Sig):Bool:=wi s.e 0 2305843009213693949&&wi s.s 0 2305843009213693949
def right(a:Act):Bool:=Bg a.author&&C5 a&&wi a.time 0 1099511627776&&Bu a.sig &&
 (match F7 a.kind with
 |none=>false
 |some r=>decide (Go.bits .andNot .i64 (JH a) r.mask=0)&&r.ok a)
def FM(k:Int):Bool:=decide (k=1)||decide (k=2)||decide (k=3)
def FW(b:Box):By:=text b.nonce++text b.data++text b.tag
def Cw(w:Wrap):By:=Ah w.to++Ah w.eph++FW w.box
abbrev F5:By:=[97,99,116]
def G0(a:Act):By:=
 text F5++text a.author++Ah a.seq++text a.prev++Ah a.kind++Ah a.time++text a.object++text a.target++Ah a.scope++text a.group++list a.to++text a.text++FW a.body++Ah a.epoch++num a.wraps.length++(a.wraps.map Cw).flatten++Ah a.n++Ah a.m
def Bq(a:Act):By:=if right a then G0 a else []
def bytes(a:Act):By:=if right a then G0 a++Ah a.sig.e++Ah a.sig.s else []
def VQ(x:R):Box×R:=(⟨x.text.1,x.text.2.text.1,x.text.2.text.2.text.1⟩,x.text.2.text.2.text.2)
def BP(x:R):Int×R:=((x.num.1:Int),x.num.2)
def MU(x:R):Wrap×R:=
 let a:=BP x
 let b:=BP a.2
 let c:=VQ b.2
 (⟨a.1,b.1,c.1⟩,c.2)
def OP:Nat→R→Option (List Wrap)×R
 |0,x=>(some [],x)
 |n+1,x=>if(MU x).2.rest=[]then(none,(MU x).2)else((OP n (MU x).2).1.map ((MU x).1 :: ·),(OP n (MU x).2).2)
def Zfb(x:R):List Wrap×R:=((OP x.num.1 x.num.2).1.getD [],(OP x.num.1 x.num.2).2)
def Rh(x:R):Act×R:=
 let author:=x.text
 let seq:=BP author.2
 let prev:=seq.2.text
 let kind:=BP prev.2
 let time:=BP kind.2
 let object:=time.2.text
 let target:=object.2.text
 let scope:=BP target.2
 let group:=scope.2.text
 let to:=group.2.list
 let text:=to.2.text
 let body:=VQ text.2
 let epoch:=BP body.2
 let wraps:=Zfb epoch.2
 let n:=BP wraps.2
 let m:=BP n.2
 let e:=BP m.2
 let s:=BP e.2
 (⟨author.1,seq.1,prev.1,kind.1,time.1,object.1,target.1,scope.1,group.1,to.1,text.1,body.1,epoch.1,wraps.1,n.1,m.1,⟨e.1,s.1⟩⟩,s.2)
def _root_.Go.Proofs.YtchpmmjmimaigaaGreatDoor.Co.R.done(x:R):Bool:=!x.bad&&x.rest==[]
def read(s:By):Act×Bool:=
 let x:R:=⟨s,false⟩
 if x.text.1=F5∧(Rh x.text.2).2.done=true∧bytes (Rh x.text.2).1=s then((Rh x.text.2).1,true)else(act0,false)
def Er(k:Key)(a:Act):Act:=
 let b:={ a with sig:=A0 }
 if right b&&k.right then { b with sig:=Do k (Bq b) } else act0
def B0(p:Int)(a:Act):Bool:=right a&&IP p (Bq a) a.sig
def same(a b:Act):Bool:=decide (a=b)
def ZcB(o t s g l x b e w n m:Bool):Int:=
 BB m 1024 <| BB n 512 <| BB w 256 <| BB e 128 <| BB b 64 <| BB x 32 <| BB l 16 <| BB g 8 <| BB s 4 <| BB t 2 <| BB o 1 0
def Dq(o t s g l x b e w n m:Bool):Ru→Bool
 |.begin=>o&&t&&s&&g&&l&&b&&e&&w
 |.post=>o&&t&&w&&n&&m
 |.reply=>t&&w&&n&&m
 |.about=>t&&s&&g&&l&&x&&b&&e&&w&&n&&m
 |.tie=>o&&s&&g&&l&&x&&b&&e&&w&&n&&m
 |.reason=>t&&s&&g&&l&&b&&e&&w&&n&&m
 |.circle=>o&&t&&s&&x&&b&&e&&w&&n&&m
 |.grant=>o&&t&&x&&b&&n&&m
 |.label=>s&&g&&l&&b&&e&&w&&n&&m
 |.move=>o&&t&&s&&g&&l&&x&&b&&e&&w
 |.setup=>o&&t&&s&&g&&x&&b&&e
 |.judge=>t&&s&&g&&l&&x&&b&&e&&w&&m
 |.list=>o&&s&&g&&l&&b&&e&&w&&m
theorem WZ(r:Ru):∀o t s g l x b e w n m:Bool,decide (Go.bits .andNot .i64 (ZcB o t s g l x b e w n m) r.mask=0)=Dq o t s g l x b e w n m r:=by
 cases r<;>decide +kernel
def out(a:Act)(r:Ru):Bool:=Dq (decide (a.object=[])) (decide (a.target=[])) (decide (a.scope=0)) (decide (a.group=[])) (decide (a.to=[])) (decide (a.text=[])) (decide (a.body=Cd)) (decide (a.epoch=0)) (decide (a.wraps=[])) (decide (a.n=0)) (decide (a.m=0)) r
theorem right_iff{a:Act}:right a=true↔Bg a.author=true∧C5 a=true∧wi a.time 0 1099511627776=true∧Bu a.sig=true ∧ ∃r,F7 a.kind=some r∧out a r=true∧r.ok a=true:=by
 unfold right;cases h:F7 a.kind with
 |none=>simp
 |some r=>
  have e:decide (Go.bits .andNot .i64 (JH a) r.mask=0)=out a r:=WZ r _ _ _ _ _ _ _ _ _ _ _;simp only[e,Bool.and_eq_true,and_assoc,Option.some.injEq,exists_eq_left']
theorem Zem{k:Int}{r:Ru}(h:F7 k=some r):(k,r)∈LJ:=by
 unfold F7 at h;generalize LJ=l at h ⊢;induction l with
 |nil=>cases h
 | cons p l ih=>
  obtain⟨j,s⟩:=p;rw[List.lookup_cons]at h;by_cases e:k=j
  ·subst e
   simp at h
   subst h;simp
  ·rw[show(k==j)=false by simpa using e]at h
   exact List.mem_cons_of_mem _ (ih h)
theorem Vn{k:Int}{r:Ru}(h:F7 k=some r):0≤k∧k≤23:=by
 have :=Zem h;simp only[LJ,List.mem_cons,Prod.mk.injEq,List.not_mem_nil,or_false]at this;omega
theorem Zel{k:Int}(h:k<0∨23<k):F7 k=none:=by
 cases e:F7 k with
 |none=>rfl
 |some r=>have :=Vn e;omega
theorem Jb{s:By}(h:Bg s=true):s.length=16:=by simp only[Bg,Bool.and_eq_true,decide_eq_true_eq]at h;exact h.1
theorem O5{s:By}(h:Cq s=true):s.length≤24:=by
 cases s with
 |nil=>cases h
 |cons c r=>simp only[Cq,Bool.and_eq_true,decide_eq_true_eq]at h;simp only[List.length_cons];omega
theorem Nn{l:List By}(h:CI l=true):l.length≤64 ∧ ∀s∈l,s.length=16:=by
 simp only[CI,Bool.and_eq_true,decide_eq_true_eq,List.all_eq_true]at h;exact⟨h.1.1,fun s hs=>Jb (h.1.2 s hs)⟩
theorem Vj{sc:Int}{g:By}(h:GM sc g=true):g.length≤24∧1≤sc∧sc≤3:=by
 unfold GM at h;split at h
 ·exact⟨O5 h,by omega,by omega⟩
 ·split at h
  ·have h:=of_decide_eq_true h;subst h;exact⟨by simp,by omega,by omega⟩
  ·cases h
theorem QV{b:Box}(h:EX b=true):b.nonce.length=32∧b.tag.length=16∧b.data.length≤500:=by
 simp only[EX,De,Bool.and_eq_true,decide_eq_true_eq]at h;exact⟨h.1.1,h.1.2,h.2⟩
structure Sm(a:Act):Prop where
 author:a.author.length≤16
 seq:0≤a.seq∧a.seq≤1073741824
 prev:a.prev.length≤32
 kind:0≤a.kind∧a.kind≤23
 time:0≤a.time∧a.time≤1099511627776
 object:a.object.length≤32
 target:a.target.length≤16
 scope:0≤a.scope∧a.scope≤3
 group:a.group.length≤24
 to:a.to.length≤64 ∧ ∀s∈a.to,s.length=16
 text:a.text.length≤500
 body:a.body.nonce.length≤32∧a.body.data.length≤500∧a.body.tag.length≤16
 epoch:0≤a.epoch∧a.epoch≤1073741824
 wraps:a.wraps.length≤64 ∧ ∀w∈a.wraps,CQ w=true
 n:0≤a.n∧a.n≤2305843009213693950
 m:0≤a.m∧a.m≤2305843009213693950
 sig:Bu a.sig=true
theorem Ke{s:By}(h:dig s=true):s.length≤32:=by have :=of_decide_eq_true h;omega
theorem LB{s:By}(h:De s=true):s.length≤500:=of_decide_eq_true h
theorem Ud{a:Act}(h:FD a=true)(ht:a.to.length≤64):a.wraps.length≤64 ∧ ∀w∈a.wraps,CQ w=true:=by
 simp only[FD,Bool.and_eq_true,decide_eq_true_eq,List.all_eq_true]at h;exact⟨by omega,h.1⟩
structure Aud(a:Act):Prop where
 scope:0≤a.scope∧a.scope≤3
 group:a.group.length≤24
 to:a.to.length≤64 ∧ ∀s∈a.to,s.length=16
 text:a.text.length≤500
 body:a.body.nonce.length≤32∧a.body.data.length≤500∧a.body.tag.length≤16
 epoch:0≤a.epoch∧a.epoch≤1073741824
theorem Zag{a:Act}(h:ES a=true):Aud a:=by
 unfold ES at h;rw[Bool.and_eq_true]at h;obtain⟨h1,h2⟩:=h;have h1:=Nn h1;split at h2
 ·rename_i h0
  simp only[Bool.and_eq_true,decide_eq_true_eq]at h2;obtain⟨⟨⟨a1,a2⟩,a3⟩,a4⟩:=h2;exact⟨by omega,by rw[a1];simp,h1,LB a3,by rw[a4];simp[Cd],by omega⟩
 ·simp only[Bool.and_eq_true,decide_eq_true_eq,Ch]at h2
  obtain⟨⟨⟨⟨_,a1⟩,a2⟩,a3⟩,a4⟩:=h2;have b1:=Vj a1;have b4:=QV a4;exact⟨by omega,b1.1,h1,by rw[a3];simp,by omega,a2⟩
theorem C3{a:Act}(h:right a=true):Sm a:=by
 obtain⟨h1,h2,h3,h4,r,h5,h6,h7⟩:=right_iff.1 h;have k:=Vn h5;have hp:a.prev.length≤32∧0≤a.seq∧a.seq≤1073741824:=by
  unfold C5 at h2;split at h2
  ·simp only[Bool.and_eq_true,decide_eq_true_eq]at h2;rw[h2.2];simp;omega
  ·simp only[Bool.and_eq_true,decide_eq_true_eq,Ch]at h2;have :=Ke h2.2;omega
 have h1:=Jb h1;rw[Ch]at h3;clear h2;cases r<;>simp only[out,Dq,Bool.and_eq_true,decide_eq_true_eq]at h6<;>simp only[Ru.ok,Bool.and_eq_true]at h7
 case begin=>
  obtain⟨⟨⟨⟨⟨⟨⟨a1,a2⟩,a3⟩,a4⟩,a5⟩,a6⟩,a7⟩,a8⟩:=h6;obtain⟨b1,b2⟩:=h7;simp only[home,pub,Bool.and_eq_true,Ch]at b2;have :=O5 b1;exact⟨by omega,hp.2,hp.1,k,h3,by simp[a1],by simp[a2],by omega,by simp[a4],by simp[a5],by omega,by simp[a6,Cd],by omega,by simp[a8],by omega,by omega,h4⟩
 case post=>
  obtain⟨⟨⟨⟨a1,a2⟩,a3⟩,a4⟩,a5⟩:=h6;have c:=Zag h7;exact⟨by omega,hp.2,hp.1,k,h3,by simp[a1],by simp[a2],c.scope,c.group,c.to,c.text,c.body,c.epoch,by simp[a3],by omega,by omega,h4⟩
 case reply=>
  obtain⟨⟨⟨a2,a3⟩,a4⟩,a5⟩:=h6;have c:=Zag h7.2;exact⟨by omega,hp.2,hp.1,k,h3,Ke h7.1,by simp[a2],c.scope,c.group,c.to,c.text,c.body,c.epoch,by simp[a3],by omega,by omega,h4⟩
 case about=>
  obtain⟨⟨⟨⟨⟨⟨⟨⟨⟨a1,a2⟩,a3⟩,a4⟩,a5⟩,a6⟩,a7⟩,a8⟩,a9⟩,a10⟩:=h6;exact⟨by omega,hp.2,hp.1,k,h3,Ke h7,by simp[a1],by omega,by simp[a3],by simp[a4],by simp[a5],by simp[a6,Cd],by omega,by simp[a8],by omega,by omega,h4⟩
 case tie=>
  obtain⟨⟨⟨⟨⟨⟨⟨⟨⟨a1,a2⟩,a3⟩,a4⟩,a5⟩,a6⟩,a7⟩,a8⟩,a9⟩,a10⟩:=h6;have :=Jb h7;exact⟨by omega,hp.2,hp.1,k,h3,by simp[a1],by omega,by omega,by simp[a3],by simp[a4],by simp[a5],by simp[a6,Cd],by omega,by simp[a8],by omega,by omega,h4⟩
 case reason=>
  obtain⟨⟨⟨⟨⟨⟨⟨⟨a1,a2⟩,a3⟩,a4⟩,a6⟩,a7⟩,a8⟩,a9⟩,a10⟩:=h6;exact⟨by omega,hp.2,hp.1,k,h3,Ke h7.1,by simp[a1],by omega,by simp[a3],by simp[a4],LB h7.2,by simp[a6,Cd],by omega,by simp[a8],by omega,by omega,h4⟩
 case circle=>
  obtain⟨⟨⟨⟨⟨⟨⟨⟨a1,a2⟩,a3⟩,a5⟩,a6⟩,a7⟩,a8⟩,a9⟩,a10⟩:=h6;have g:=O5 h7.1;exact⟨by omega,hp.2,hp.1,k,h3,by simp[a1],by simp[a2],by omega,g,Nn h7.2,by simp[a5],by simp[a6,Cd],by omega,by simp[a8],by omega,by omega,h4⟩
 case grant=>
  obtain⟨⟨⟨⟨⟨a1,a2⟩,a5⟩,a6⟩,a9⟩,a10⟩:=h6;simp only[grant,Bool.and_eq_true,Ch]at h7;obtain⟨⟨⟨b1,b2⟩,b3⟩,b4⟩:=h7;have c1:=Vj b1;have c3:=Nn b3;exact⟨by omega,hp.2,hp.1,k,h3,by simp[a1],by simp[a2],by omega,c1.1,c3,by simp[a5],by simp[a6,Cd],b2,Ud b4 c3.1,by omega,by omega,h4⟩
 case label=>
  obtain⟨⟨⟨⟨⟨⟨⟨a3,a4⟩,a5⟩,a6⟩,a7⟩,a8⟩,a9⟩,a10⟩:=h6;simp only[label,Bool.and_eq_true,Bool.or_eq_true,decide_eq_true_eq]at h7;have b1:=O5 h7.1;have b2:a.object.length≤32∧a.target.length≤16:=by
   rcases h7.2 with⟨x,y⟩|⟨x,y⟩
   ·exact⟨Ke x,by simp[y]⟩
   ·exact⟨by simp[y],by have :=Jb x;omega⟩
  exact⟨by omega,hp.2,hp.1,k,h3,b2.1,b2.2,by omega,by simp[a4],by simp[a5],by omega,by simp[a6,Cd],by omega,by simp[a8],by omega,by omega,h4⟩
 case move=>
  obtain⟨⟨⟨⟨⟨⟨⟨⟨a1,a2⟩,a3⟩,a4⟩,a5⟩,a6⟩,a7⟩,a8⟩,a9⟩:=h6;simp only[home,pub,Bool.and_eq_true,Ch]at h7;exact⟨by omega,hp.2,hp.1,k,h3,by simp[a1],by simp[a2],by omega,by simp[a4],by simp[a5],by simp[a6],by simp[a7,Cd],by omega,by simp[a9],by omega,by omega,h4⟩
 case setup=>
  obtain⟨⟨⟨⟨⟨⟨a1,a2⟩,a3⟩,a4⟩,a6⟩,a7⟩,a8⟩:=h6;simp only[setup,pub,Bool.and_eq_true,Ch,decide_eq_true_eq]at h7;obtain⟨⟨⟨⟨b0,b1⟩,b2⟩,b3⟩,b4⟩:=h7;have c1:=Nn b1;exact⟨by omega,hp.2,hp.1,k,h3,by simp[a1],by simp[a2],by omega,by simp[a4],c1,by simp[a6],by simp[a7,Cd],by omega,Ud b2 c1.1,by omega,by omega,h4⟩
 case judge=>
  obtain⟨⟨⟨⟨⟨⟨⟨⟨a1,a2⟩,a3⟩,a4⟩,a5⟩,a6⟩,a7⟩,a8⟩,a10⟩:=h6;rw[Ch]at h7;exact⟨by omega,hp.2,hp.1,k,h3,Ke h7.1,by simp[a1],by omega,by simp[a3],by simp[a4],by simp[a5],by simp[a6,Cd],by omega,by simp[a8],by omega,by omega,h4⟩
 case list=>
  obtain⟨⟨⟨⟨⟨⟨⟨a1,a2⟩,a3⟩,a4⟩,a6⟩,a7⟩,a8⟩,a10⟩:=h6;simp only[Bool.and_eq_true,Ch]at h7;obtain⟨⟨b1,b2⟩,b3⟩:=h7;have :=Jb b1;exact⟨by omega,hp.2,hp.1,k,h3,by simp[a1],by omega,by omega,by simp[a3],by simp[a4],LB b2,by simp[a6,Cd],by omega,by simp[a8],by omega,by omega,h4⟩
def Qw(a:Act)(rest:By):By:=
 text a.author++(Ah a.seq++(text a.prev++(Ah a.kind++(Ah a.time++(text a.object++(text a.target++(Ah a.scope++(text a.group++(list a.to++(text a.text++(FW a.body++(Ah a.epoch++(num a.wraps.length++((a.wraps.map Cw).flatten++(Ah a.n++(Ah a.m++(Ah a.sig.e++(Ah a.sig.s++rest))))))))))))))))))
theorem Zi3(a:Act)(rest:By):G0 a++Ah a.sig.e++Ah a.sig.s++rest=text F5++Qw a rest:=by
 unfold G0 Qw;simp only[List.append_assoc]
theorem Zf8{n:Int}(h:0≤n):Ah n≠[]:=by
 unfold Ah;rw[if_neg (by omega)]
 intro e;have :=WA n.toNat;rw[e]at this;simp at this
theorem Jl{a:Act}(h:right a=true):bytes a=text F5++Qw a []:=by
 unfold bytes;rw[if_pos h,←Zi3,List.append_nil]
theorem bytes_ne{a:Act}(h:right a=true):bytes a≠[]:=by
 rw[Jl h];simp[text,I5]
theorem bytes_wrong{a:Act}(h:right a=false):bytes a=[]∧Bq a=[]:=by
 unfold bytes Bq;simp[h]
theorem Tk{a:Act}(h:right a=true):Bq a≠[]:=by
 unfold Bq G0;rw[if_pos h];simp[text,I5]
theorem ZjM(a:Act):bytes a=if Bq a=[]then []else Bq a++Ah a.sig.e++Ah a.sig.s:=by
 cases h:right a with
 |false=>rw[(bytes_wrong h).1,(bytes_wrong h).2];rfl
 |true=>
  rw[if_neg (Tk h)];unfold bytes Bq;rw[if_pos h,if_pos h]
end Ac
end
section
namespace It
open Tryz
open Go Co Sg Ac
structure Claim where
 actor:By
 base:Int
 prev:By
 gen:Int
 home:Int
 pub:Int
 time:Int
 sig:Sig
 deriving DecidableEq
structure Ballot where
 server:Int
 actor:By
 gen:Int
 claim:By
 time:Int
 sig:Sig
 deriving DecidableEq
structure Decision where
 server:Int
 number:Int
 kind:Int
 actor:By
 object:By
 text:By
 to:List By
 n:Int
 frm:Int
 til:Int
 sig:Sig
 deriving DecidableEq
structure Item where
 kind:Int
 act:Ac.Act
 claim:Claim
 ballot:Ballot
 decision:Decision
 deriving DecidableEq
structure Entry where
 time:Int
 item:Item
 deriving DecidableEq
def CX:Claim:=⟨[],0,[],0,0,0,0,A0⟩
def FY:Ballot:=⟨0,[],0,[],0,A0⟩
def Fu:Decision:=⟨0,0,0,[],[],[],[],0,0,0,A0⟩
def B2:Item:=⟨0,act0,CX,FY,Fu⟩
def Gk(n:Int):Bool:=wi n 0 19
def EP(n:Int):Bool:=wi n 0 1099511627776
def Fh(c:Claim):Bool:=Bg c.actor&&wi c.base 1 1073741824&&dig c.prev&&wi c.gen 0 1073741824&&Gk c.home&&wi c.pub 1 2305843009213693950&&EP c.time&&Bu c.sig
def Ga(b:Ballot):Bool:=Gk b.server&&Bg b.actor&&wi b.gen 0 1073741824&&dig b.claim&&EP b.time&&Bu b.sig
def IZ(d:Decision):Bool:=decide (d.to=[])&&decide (d.n=0)
def MR(d:Decision):Bool:=
 if d.kind=0∨d.kind=1∨d.kind=4∨d.kind=6∨d.kind=7 then Bg d.actor&&decide (d.object=[])&&De d.text&&IZ d
 else if d.kind=2∨d.kind=3∨d.kind=5 then decide (d.actor=[])&&dig d.object&&De d.text&&IZ d
 else if d.kind=8 then decide (d.actor=[])&&decide (d.object=[])&&De d.text&&CI d.to&&wi d.n 1 d.to.length
 else if d.kind=9 then decide (d.actor=[])&&decide (d.object=[])&&decide (d.text.length≤4096)&&IZ d
 else false
def G9(d:Decision):Bool:=Gk d.server&&wi d.number 0 1073741824&&EP d.frm&&EP d.til&&decide (d.frm<d.til)&&MR d&&Bu d.sig
def rest(it:Item):Item:=
 if it.kind=0 then { it with kind:=0,act:=act0 } else if it.kind=1 then { it with kind:=0,claim:=CX } else if it.kind=2 then { it with kind:=0,ballot:=FY } else if it.kind=3 then { it with kind:=0,decision:=Fu } else { it with kind:=0 }
def IX(it:Item):Bool:=if it.kind=0 then Ac.right it.act else if it.kind=1 then Fh it.claim else if it.kind=2 then Ga it.ballot else if it.kind=3 then G9 it.decision else false
def right(it:Item):Bool:=IX it&&decide (rest it=B2)
def FU(c:Claim):By:=text c.actor++Ah c.base++text c.prev++Ah c.gen++Ah c.home++Ah c.pub++Ah c.time
def FX(b:Ballot):By:=Ah b.server++text b.actor++Ah b.gen++text b.claim++Ah b.time
def FT(d:Decision):By:=Ah d.server++Ah d.number++Ah d.kind++text d.actor++text d.object++text d.text++list d.to++Ah d.n++Ah d.frm++Ah d.til
abbrev JE:By:=[99,108,97,105,109]
abbrev JF:By:=[98,97,108,108,111,116]
abbrev JD:By:=[100,101,99,105,115,105,111,110]
def CS(it:Item):Sig:=if it.kind=1 then it.claim.sig else if it.kind=2 then it.ballot.sig else it.decision.sig
def HH(it:Item):By:=if it.kind=1 then FU it.claim else if it.kind=2 then FX it.ballot else FT it.decision
def LQ(it:Item):By:=if it.kind=1 then JE else if it.kind=2 then JF else JD
def C6(it:Item):By:=text (LQ it)++HH it
def Ou(p:Int)(it:Item):Bool:=IP p (C6 it) (CS it)
def Kq(it:Item):By:=if it.kind=0 then Ac.bytes it.act else HH it++(Ah (CS it).e++Ah (CS it).s)
def bytes(it:Item):By:=if right it then Ah it.kind++Kq it else []
def Rc(x:R):Sig×R:=(⟨(BP x).1,(BP (BP x).2).1⟩,(BP (BP x).2).2)
def VP(x:R):Claim×R:=
 let actor:=x.text
 let base:=BP actor.2
 let prev:=base.2.text
 let gen:=BP prev.2
 let home:=BP gen.2
 let pub:=BP home.2
 let time:=BP pub.2
 let s:=Rc time.2
 (⟨actor.1,base.1,prev.1,gen.1,home.1,pub.1,time.1,s.1⟩,s.2)
def VR(x:R):Ballot×R:=
 let server:=BP x
 let actor:=server.2.text
 let gen:=BP actor.2
 let claim:=gen.2.text
 let time:=BP claim.2
 let s:=Rc time.2
 (⟨server.1,actor.1,gen.1,claim.1,time.1,s.1⟩,s.2)
def VO(x:R):Decision×R:=
 let server:=BP x
 let number:=BP server.2
 let kind:=BP number.2
 let actor:=kind.2.text
 let object:=actor.2.text
 let text:=object.2.text
 let to:=text.2.list
 let n:=BP to.2
 let frm:=BP n.2
 let til:=BP frm.2
 let s:=Rc til.2
 (⟨server.1,number.1,kind.1,actor.1,object.1,text.1,to.1,n.1,frm.1,til.1,s.1⟩,s.2)
def Zfe(x:R):Item×Bool×R:=
 let k:=BP x
 if k.1=0 then
  let t:=k.2.take k.2.rest.length
  let a:=Ac.read t.1
  ({ B2 with act:=a.1 },a.2,t.2)
 else if k.1=1 then({ B2 with kind:=1,claim:=(VP k.2).1 },true,(VP k.2).2)
 else if k.1=2 then({ B2 with kind:=2,ballot:=(VR k.2).1 },true,(VR k.2).2)
 else if k.1=3 then({ B2 with kind:=3,decision:=(VO k.2).1 },true,(VO k.2).2)
 else({ B2 with kind:=k.1 },true,k.2)
def read(s:By):Item×Bool:=
 let x:=Zfe ⟨s,false⟩
 if x.2.1=true∧x.2.2.done=true∧s≠[]∧bytes x.1=s then(x.1,true)else(B2,false)
def digest(it:Item):By:=if bytes it=[]then []else Sm.sha (bytes it)
def An(a:Ac.Act):Item:={ B2 with act:=a }
def Ax(c:Claim):Item:={ B2 with kind:=1,claim:=c }
def Cj(b:Ballot):Item:={ B2 with kind:=2,ballot:=b }
def signClaim(k:Key)(c:Claim):Claim:={ c with sig:=Do k (C6 (Ax c)) }
def signBallot(k:Key)(b:Ballot):Ballot:={ b with sig:=Do k (C6 (Cj b)) }
def claimed(p:Int)(c:Claim):Bool:=Ou p (Ax c)
def H4(it:Item):Int:=if it.kind=2 then it.ballot.server else it.decision.server
def signed(ps:List Int)(it:Item):Bool:=
 if right it then(if it.kind=2∨it.kind=3 then decide (H4 it<ps.length)&&Ou (ps.getD (H4 it).toNat 0) it else true)else false
def Yy(e:Entry):By:=if EP e.time&&right e.item then Ah e.time++bytes e.item else []
theorem VD{it:Item}(h0:it.kind=0):right it=true↔Ac.right it.act=true∧it.claim=CX∧it.ballot=FY∧it.decision=Fu:=by
 obtain⟨k,a,c,b,d⟩:=it;simp only at h0
 subst h0;simp[right,IX,rest,B2]
theorem VC{it:Item}(h0:it.kind=1):right it=true↔Fh it.claim=true∧it.act=act0∧it.ballot=FY∧it.decision=Fu:=by
 obtain⟨k,a,c,b,d⟩:=it;simp only at h0
 subst h0;simp[right,IX,rest,B2]
theorem Q6{it:Item}(h0:it.kind=2):right it=true↔Ga it.ballot=true∧it.act=act0∧it.claim=CX∧it.decision=Fu:=by
 obtain⟨k,a,c,b,d⟩:=it;simp only at h0
 subst h0;simp[right,IX,rest,B2]
theorem Q5{it:Item}(h0:it.kind=3):right it=true↔G9 it.decision=true∧it.act=act0∧it.claim=CX∧it.ballot=FY:=by
 obtain⟨k,a,c,b,d⟩:=it;simp only at h0
 subst h0;simp[right,IX,rest,B2]
theorem MQ{it:Item}(h:right it=true):it.kind=0∨it.kind=1∨it.kind=2∨it.kind=3:=by
 unfold right IX at h;rw[Bool.and_eq_true]at h;have h:=h.1;split at h
 ·omega
 split at h
 ·omega
 split at h
 ·omega
 split at h
 ·omega
 ·cases h
structure SmC(c:Claim):Prop where
 actor:c.actor.length=16
 base:1≤c.base∧c.base≤1073741824
 prev:c.prev.length=32
 gen:0≤c.gen∧c.gen≤1073741824
 home:0≤c.home∧c.home≤19
 pub:1≤c.pub∧c.pub≤2305843009213693950
 time:0≤c.time∧c.time≤1099511627776
 sig:Bu c.sig=true
theorem Zt{c:Claim}(h:Fh c=true):SmC c:=by
 simp only[Fh,Gk,EP,Bool.and_eq_true,Ch]at h;obtain⟨⟨⟨⟨⟨⟨⟨h1,h2⟩,h3⟩,h4⟩,h5⟩,h6⟩,h7⟩,h8⟩:=h;exact⟨Jb h1,h2,of_decide_eq_true h3,h4,h5,h6,h7,h8⟩
structure SmB(b:Ballot):Prop where
 server:0≤b.server∧b.server≤19
 actor:b.actor.length=16
 gen:0≤b.gen∧b.gen≤1073741824
 claim:b.claim.length=32
 time:0≤b.time∧b.time≤1099511627776
 sig:Bu b.sig=true
theorem TH{b:Ballot}(h:Ga b=true):SmB b:=by
 simp only[Ga,Gk,EP,Bool.and_eq_true,Ch]at h;obtain⟨⟨⟨⟨⟨h1,h2⟩,h3⟩,h4⟩,h5⟩,h6⟩:=h;exact⟨h1,Jb h2,h3,of_decide_eq_true h4,h5,h6⟩
structure SmD(d:Decision):Prop where
 server:0≤d.server∧d.server≤19
 number:0≤d.number∧d.number≤1073741824
 kind:0≤d.kind∧d.kind≤9
 actor:d.actor.length≤16
 object:d.object.length≤32
 text:d.text.length≤4096
 to:d.to.length≤64 ∧ ∀s∈d.to,s.length=16
 n:0≤d.n∧d.n≤64
 frm:0≤d.frm∧d.frm≤1099511627776
 til:0≤d.til∧d.til≤1099511627776
 sig:Bu d.sig=true
theorem RA{d:Decision}:IZ d=true↔d.to=[]∧d.n=0:=by simp[IZ]
theorem Tb{d:Decision}(h:G9 d=true):SmD d:=by
 simp only[G9,Gk,EP,Bool.and_eq_true,Ch]at h;obtain⟨⟨⟨⟨⟨⟨h1,h2⟩,h3⟩,h4⟩,h5⟩,h6⟩,h7⟩:=h;have key:(0≤d.kind∧d.kind≤9)∧d.actor.length≤16∧d.object.length≤32∧d.text.length≤4096∧(d.to.length≤64 ∧ ∀s∈d.to,s.length=16)∧(0≤d.n∧d.n≤64):=by
  unfold MR at h6;split at h6
  ·simp only[Bool.and_eq_true,decide_eq_true_eq,RA]at h6
   obtain⟨⟨⟨a1,a2⟩,a3⟩,a4,a5⟩:=h6;have :=Jb a1;have :=LB a3;exact⟨by omega,by omega,by simp[a2],by omega,by simp[a4],by omega⟩
  split at h6
  ·simp only[Bool.and_eq_true,decide_eq_true_eq,RA]at h6
   obtain⟨⟨⟨a1,a2⟩,a3⟩,a4,a5⟩:=h6;have :=LB a3;exact⟨by omega,by simp[a1],Ke a2,by omega,by simp[a4],by omega⟩
  split at h6
  ·simp only[Bool.and_eq_true,decide_eq_true_eq,Ch]at h6
   obtain⟨⟨⟨⟨a1,a2⟩,a3⟩,a4⟩,a5⟩:=h6;have :=LB a3;have :=Nn a4;exact⟨by omega,by simp[a1],by simp[a2],by omega,this,by omega⟩
  split at h6
  ·simp only[Bool.and_eq_true,decide_eq_true_eq,RA]at h6
   obtain⟨⟨⟨a1,a2⟩,a3⟩,a4,a5⟩:=h6;exact⟨by omega,by simp[a1],by simp[a2],a3,by simp[a4],by omega⟩
  ·cases h6
 obtain⟨k1,k2,k3,k4,k5,k6⟩:=key;exact⟨h1,h2,k1,k2,k3,k4,k5,k6,h3,h4,h7⟩
theorem Jl{it:Item}(h:right it=true):bytes it=Ah it.kind++Kq it:=by unfold bytes;rw[if_pos h]
theorem bytes_wrong{it:Item}(h:right it=false):bytes it=[]:=by unfold bytes;simp[h]
theorem bytes_ne{it:Item}(h:right it=true):bytes it≠[]:=by
 rw[Jl h];have hk:=MQ h;intro e;exact Zf8 (by omega) (List.append_eq_nil_iff.1 e).1
theorem ZmJ{e:Entry}:(Yy e≠[])↔(EP e.time=true∧right e.item=true):=by
 unfold Yy;constructor
 ·intro h
  split at h
  ·rename_i hc;simpa using hc
  ·exact absurd rfl h
 ·rintro⟨h1,h2⟩
  rw[if_pos (by rw[h1,h2];rfl)]
  intro e;exact bytes_ne h2 (List.append_eq_nil_iff.1 e).2
end It
end
section
namespace Sl
open Tryz
open Go Co Sg Ac It
theorem U8(k:Key)(m:By):Bu (Do k m)=true:=by
 obtain⟨h1,h2,h3,h4⟩:=ZdE k m;simp only[Bu,wi,Bool.and_eq_true,decide_eq_true_eq];omega
end Sl
end
section
namespace Pe
open Tryz
open Go Co Ac
variable [Tab]
set_option maxRecDepth 100000
theorem ZiQ(n b0 b1 b2 b3:Nat)(h:128≤b0):128≤(Lib.decodeN n b0 b1 b2 b3).1:=by
 unfold Lib.decodeN;rw[if_neg (by omega)]
 split
 ·split
  ·assumption
  ·decide
 split
 ·split
  ·rename_i h;exact Nat.le_trans (by decide) h.1
  ·decide
 split
 ·split
  ·rename_i h;exact Nat.le_trans (by decide) h.1
  ·decide
 ·decide
theorem Vm(l:By)(i:Nat)(h:i<l.length):∃r w,FI l i=(r,w)∧(l[i].toNat<128→r=l[i].toNat∧w=1)∧(128≤l[i].toNat→128≤r):=by
 have hg:((⟨l.toArray⟩:ByteArray).get! i).toNat=l[i].toNat:=by
  show(l.toArray[i]!).toNat=_
  rw[getElem!_pos l.toArray i (by simpa using h)]
  simp
 have e:∃n b1 b2 b3,FI l i=Lib.decodeN n l[i].toNat b1 b2 b3:=by
  unfold FI;rw[Lib.decode_at,hg];exact⟨_,_,_,_,rfl⟩
 obtain⟨n,b1,b2,b3,e⟩:=e;refine⟨(FI l i).1,(FI l i).2,rfl,fun hb=>?_,fun hb=>?_⟩
 ·rw[e]
  unfold Lib.decodeN;rw[if_pos hb];exact⟨rfl,rfl⟩
 ·rw[e]
  exact ZiQ _ _ _ _ _ hb
theorem Nl(n:Int):AC prog 223 [.it .i32 n] [] (.bo (decide (48≤n)&&decide (n≤57))) []:=by
 refine Ap [] [] func223 ?_;by_cases h:48≤n
 ·rw[decide_eq_true h]
  refine run ?_;exact Ad
 ·rw[decide_eq_false h]
  refine run ?_;exact Ad
theorem L4(s:By)(hs:s.length≤140737488355328):AC prog 130 [.st s] [] (.bo (Bg s)) []:=by
 refine Ap [223] [] func130 ?_;unfold Bg;by_cases hl:s.length=16
 rotate_left
 ·rw[decide_eq_false hl]
  refine run ?_;exact Ad
 rw[decide_eq_true hl];refine run ?_;refine Bn (fun m e S=>e 0=.st s∧e 9=.ptr 0 0 ∧ ∃k:Nat,S=[.siter s k]∧k≤s.length∧(s.take k).all Gn=true∧m=s.length-k) s.length ⟨Ab,Ab,0,rfl,by omega,rfl,rfl⟩ ?_
 rintro m e S ⟨s0,s9,k,rfl,hk,hall,rfl⟩
 by_cases hlt:k<s.length
 rotate_left
 ·obtain rfl:k=s.length:=by omega
  rw[List.take_length]at hall;rw[hall];refine Aa (A3 @s0 @s9 @hlt) ?_;exact Ad
 obtain⟨r,w,hr,h1,h2⟩:=Vm s k hlt;have hx:Gn s[k]=true↔(48≤r∧r≤57)∨(97≤r∧r≤102):=by
  unfold Gn;simp only[Bool.or_eq_true,Bool.and_eq_true,decide_eq_true_eq];by_cases h:s[k].toNat<128
  ·rw[(h1 h).1]
  ·have :=h2 (by omega);omega
 have hstep:s.take (k+1)=s.take k++[s[k]]:=List.take_succ_eq_append_getElem hlt;have hbad:Gn s[k]=false→s.all Gn=false:=fun h=>List.all_eq_false.2 ⟨s[k],List.getElem_mem hlt,by simp[h]⟩
 have hgood:Gn s[k]=true→w=1:=fun h=>by
  refine(h1 ?_).2
  refine Nat.lt_of_not_le fun h'=>?_
  have :=h2 h';have :=hx.1 h;omega
 generalize s[k]=b at *;clear h1 h2;cases hb:Gn b with
 | true=>
  obtain rfl:=hgood hb;have hc:=hx.1 hb;refine Aa (A4 @s0 @s9 @hlt @hr) ?_;refine cp (Nl r) ?_;rcases hc with⟨c1,c2⟩|⟨c1,c2⟩
  iterate 2
   ·refine Aa (an @s0 @s9) ?_
    exact As (s.length-(k+1)) (by omega) ⟨Ab,Ab,k+1,rfl,by omega,by rw[hstep,List.all_append,hall];simp[hb],rfl⟩
 | false=>
  rw[hbad hb];have hc:¬((48≤r∧r≤57)∨(97≤r∧r≤102)):=fun h=>by rw[hx.2 h]at hb;cases hb
  clear hbad hgood hx;refine Aa (A4 @s0 @s9 @hlt @hr) ?_;refine cp (Nl r) ?_;by_cases c1:r<48
  ·refine Aa (an @s0 @s9) ?_
   exact Ad
  by_cases c2:r<97
  ·refine Aa (an @s0 @s9) ?_
   exact Ad
  ·refine Aa (an @s0 @s9) ?_
   exact Ad
theorem WQ{s:By}{k:Nat}(hk:k<s.length)(h:(if k=0 then Df s[k]else DO s[k])=false):Cq s=false:=by
 cases s with
 |nil=>rfl
 | cons c r=>
  show(decide (r.length≤23)&&Df c&&r.all DO)=false
  cases k with
  |zero=>simp at h;simp[h]
  |succ k=>
   simp only[List.getElem_cons_succ,Nat.add_one_ne_zero,if_false]at h
   have:r.all DO=false:=List.all_eq_false.2 ⟨_,List.getElem_mem (by simpa using hk),by rw[h];simp⟩
   rw[this];simp
theorem WO{s:By}(h0:0<s.length)(hl:s.length≤24)(h:∀j (hj:j<s.length),(if j=0 then Df s[j]else DO s[j])=true):Cq s=true:=by
 cases s with
 |nil=>simp at h0
 | cons c r=>
  show(decide (r.length≤23)&&Df c&&r.all DO)=true
  have h1:=h 0 (by simp)
  simp only[List.getElem_cons_zero,if_true]at h1;have h2:r.all DO=true:=List.all_eq_true.2 fun x hx=>by
   obtain⟨j,hj,rfl⟩:=List.getElem_of_mem hx;have :=h (j+1) (by simp;omega)
   simpa using this
  simp only[List.length_cons]at hl;rw[h1,h2,decide_eq_true (by omega)]
  rfl
theorem WP{s:By}(h:24<s.length):Cq s=false:=by
 cases s with
 |nil=>rfl
 |cons c r=>
  simp only[List.length_cons]at h;show(decide (r.length≤23)&&Df c&&r.all DO)=false
  rw[decide_eq_false (by omega)]
  rfl
set_option maxHeartbeats 1600000 in
theorem O4(s:By)(hs:s.length≤140737488355328):AC prog 234 [.st s] [] (.bo (Cq s)) []:=by
 refine Ap [223] [] func234 ?_;by_cases h0:s=[]
 ·subst h0
  rw[show Cq []=false from rfl]
  refine run ?_;exact Ad
 have hne:(s==[])=false:=by simpa using h0
 have hpos:0<s.length:=List.length_pos_iff.2 h0;by_cases hl:24<s.length
 ·rw[WP hl]
  refine Aa @hne ?_;exact Ad
 refine Aa @hne ?_;refine Bn (fun m e S=>e 0=.st s∧e 14=.ptr 0 0 ∧ ∃k:Nat,S=[.siter s k]∧k≤s.length∧(∀j (hj:j<s.length),j<k→(if j=0 then Df s[j]else DO s[j])=true)∧m=s.length-k) s.length ⟨Ab,Ab,0,rfl,by omega,fun j _ h=>absurd h (Nat.not_lt_zero _),rfl⟩ ?_
 rintro m e S ⟨s0,s14,k,rfl,hk,hall,rfl⟩
 by_cases hlt:k<s.length
 rotate_left
 ·rw[WO hpos (by omega) fun j hj=>hall j hj (by omega)]
  refine Aa (A3 @s0 @s14 @hlt) ?_;exact Ad
 obtain⟨r,w,hr,h1,h2⟩:=Vm s k hlt;have hx:(if k=0 then Df s[k]else DO s[k])=true↔(97≤r∧r≤122)∨(k≠0∧((48≤r∧r≤57)∨r=95)):=by
  have h3:s[k].toNat=r∨(128≤s[k].toNat∧128≤r):=by
   by_cases h:s[k].toNat<128
   ·exact .inl (h1 h).1.symm
   ·exact .inr ⟨by omega,h2 (by omega)⟩
  split
  ·rename_i hk0
   simp only[Df,Bool.and_eq_true,decide_eq_true_eq];omega
  ·rename_i hk0
   simp only[DO,Df,Bool.or_eq_true,Bool.and_eq_true,decide_eq_true_eq];omega
 have hbad:=fun h=>WQ (s:=s) (k:=k) hlt h
 have hgood:(if k=0 then Df s[k]else DO s[k])=true→w=1:=fun h=>by
  refine(h1 ?_).2
  refine Nat.lt_of_not_le fun h'=>?_
  have :=h2 h';have :=hx.1 h;omega
 have hnext:(if k=0 then Df s[k]else DO s[k])=true → ∀j (hj:j<s.length),j<k+1→(if j=0 then Df s[j]else DO s[j])=true:=fun h j hj hjk=>by
  by_cases e:j=k
  ·subst e;exact h
  ·exact hall j hj (by omega)
 generalize (if k=0 then Df s[k]else DO s[k])=b at *
 clear h1 h2;cases b with
 | true=>
  obtain rfl:=hgood rfl;have hc:=hx.1 rfl;have hn:=hnext rfl;clear hbad hgood hx hnext;rcases hc with c1|⟨c0,c1⟩
  ·refine Aa (A4 @s0 @s14 @hlt @hr) ?_
   exact As (s.length-(k+1)) (by omega) ⟨Ab,Ab,k+1,rfl,by omega,hn,rfl⟩
  ·have c00:¬((k:Int)=0):=by omega
   by_cases cl:r<97
   focus
    refine Aa (A4 @s0 @s14 @hlt @hr) ?_;refine cp (Nl r) ?_;rcases c1 with c1|c1
    ·refine Aa (an @s0 @s14) ?_
     exact As (s.length-(k+1)) (by omega) ⟨Ab,Ab,k+1,rfl,by omega,hn,rfl⟩
    ·subst c1
     refine Aa (an @s0 @s14) ?_;exact As (s.length-(k+1)) (by omega) ⟨Ab,Ab,k+1,rfl,by omega,hn,rfl⟩
   exact absurd c1 (by omega)
 | false=>
  rw[hbad rfl];have hc:¬((97≤r∧r≤122)∨(k≠0∧((48≤r∧r≤57)∨r=95))):=fun h=>by have :=hx.2 h;cases this
  clear hbad hgood hx hnext hall;by_cases hk0:k=0
  ·subst hk0
   by_cases c1:r<97
   iterate 2
    ·refine Aa (A4 @s0 @s14 @hlt @hr) ?_
     exact Ad
  by_cases c1:r<97
  focus
   refine Aa (A4 @s0 @s14 @hlt @hr) ?_;refine cp (Nl r) ?_;by_cases c2:r<48
   ·refine Aa (an @s0 @s14) ?_
    exact Ad
   ·refine Aa (an @s0 @s14) ?_
    exact Ad
  focus
   refine Aa (A4 @s0 @s14 @hlt @hr) ?_;refine cp (Nl r) ?_;refine Aa (an @s0 @s14) ?_;exact Ad
theorem TL:∀{l:List By},(∀j (h:j+1<l.length),(Op.bytesLess l[j+1] l[j]||l[j+1]==l[j])=false)→Kv l=true
 |[],_=>rfl
 |[_],_=>rfl
 | a::b::r,h=>by
  unfold Kv;have h0:=h 0 (by simp)
  simp only[List.getElem_cons_succ,List.getElem_cons_zero]at h0;rw[h0,TL fun j hj=>by
   have :=h (j+1) (by simp at hj ⊢;omega)
   simpa using this]
  rfl
theorem TM:∀{l:List By} {j:Nat} (h:j+1<l.length),(Op.bytesLess l[j+1] l[j]||l[j+1]==l[j])=true→Kv l=false
 |[],_,h,_=>by simp at h
 |[_],_,h,_=>by simp at h
 |a::b::r,0,_,h=>by
  simp only[List.getElem_cons_succ,List.getElem_cons_zero]at h;unfold Kv;rw[h];rfl
 |a::b::r,j+1,hj,h=>by
  unfold Kv;rw[TM (l:=b::r) (j:=j) (by simp at hj ⊢;omega) (by simpa using h)]
  simp
set_option maxHeartbeats 1600000 in
theorem L3(l:List By)(hs:∀s∈l,s.length≤140737488355328)(hl:l.length≤140737488355328):AC prog 64 [B8 l] [] (.bo (CI l)) []:=by
 refine Ap [130] [] func64 ?_;unfold CI;by_cases h64:l.length≤64
 rotate_left
 ·rw[decide_eq_false h64]
  refine run ?_;exact Ad
 rw[decide_eq_true h64];refine run ?_;refine Bn (fun m e S=>S=[]∧e 0=B8 l∧e 8=B8 l∧e 9=.it .i64 (l.length:Int) ∧ ∃k:Nat,e 10=.it .i64 (k:Int)∧k≤l.length∧(∀j (h:j<l.length),j<k→Bg l[j]=true) ∧
  (∀j (h:j+1<l.length),j+1<k→(Op.bytesLess l[j+1] l[j]||l[j+1]==l[j])=false)∧m=l.length-k) l.length ⟨rfl,Ab,Ab,Ab,0,Ab,by omega,fun j _ h=>absurd h (Nat.not_lt_zero _),fun j _ h=>absurd h (Nat.not_lt_zero _),rfl⟩ ?_
 rintro m e S ⟨rfl,s0,s8,s9,k,s10,hk,hid,hasc,rfl⟩
 by_cases hlt:k<l.length
 rotate_left
 ·obtain rfl:k=l.length:=by omega
  have h1:l.all Bg=true:=List.all_eq_true.2 fun x hx=>by
   obtain⟨j,hj,rfl⟩:=List.getElem_of_mem hx;exact hid j hj hj
  rw[h1,TL fun j h=>hasc j h h]
  refine Aa (A4 @s0 @s8 @s9 @s10) ?_;exact Ad
 have hg:l[k]? = some l[k]:=List.getElem?_eq_getElem hlt
 have hsk:=hs l[k] (List.getElem_mem hlt);refine Aa (A5 @s0 @s8 @s9 @s10 @hg) ?_;refine cp (L4 l[k] hsk) ?_;cases hb:Bg l[k]with
 |false=>
  have:l.all Bg=false:=List.all_eq_false.2 ⟨l[k],List.getElem_mem hlt,by simp[hb]⟩
  rw[this];refine Aa (A4 @s0 @s8 @s9 @s10) ?_;exact Ad
 | true=>
  have hid':∀j (h:j<l.length),j<k+1→Bg l[j]=true:=fun j h hj=>by
   by_cases e:j=k
   ·subst e;exact hb
   ·exact hid j h (by omega)
  cases k with
  |zero=>
   refine Aa (A5 @s0 @s8 @s9 @s10 @hg) ?_;exact As (l.length-1) (by omega) ⟨rfl,Ab,Ab,Ab,1,Ab,by omega,hid',fun j _ h=>by omega,rfl⟩
  | succ k=>
   have hg':l[k]? = some l[k]:=List.getElem?_eq_getElem (by omega)
   have hc:((k+1:Nat):Int)-1=(k:Int):=by omega
   have hpos:(0:Int)<((k+1:Nat):Int):=by omega
   cases hcmp:(Op.bytesLess l[k+1] l[k]||l[k+1]==l[k])with
   |true=>
    rw[TM (j:=k) hlt hcmp,Bool.and_false];refine Aa (A8 @s0 @s8 @s9 @s10 @hg @hg' @hc @hcmp) ?_;exact Ad
   | false=>
    refine Aa (A8 @s0 @s8 @s9 @s10 @hg @hg' @hc @hcmp) ?_;exact As (l.length-(k+1+1)) (by omega) ⟨rfl,Ab,Ab,Ab,k+1+1,Ab,by omega,hid',fun j h hj=>by
     by_cases e:j=k
     ·subst e;exact hcmp
     ·exact hasc j h (by omega),rfl⟩
end Pe
end
end Go.Proofs.YtchpmmjmimaigaaGreatDoor
