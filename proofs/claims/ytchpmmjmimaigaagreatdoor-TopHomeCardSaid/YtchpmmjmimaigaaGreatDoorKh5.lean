import Derived.Test.YtchpmmjmimaigaaGreatDoorKh4
import Derived.MapKept
import Derived.Laws.MakeOwn
import Derived.Still
import Derived.Deep.LoopGhost
set_option linter.unusedSectionVars false
set_option linter.unusedVariables false
set_option linter.unusedSimpArgs false
namespace Go.Proofs.YtchpmmjmimaigaaGreatDoor
section
namespace Pe
open Go Go.RowKit
variable [Tab]
def Mode.ren(ρ:Nat→Nat):Mode→Mode
 |.own l=>.own (ρ l)
 |m=>m
def AV.r0(ρ:Nat→Nat):AV→AV
 |.ptr l o=>.ptr (ρ l) o
 |.mp l=>.mp (ρ l)
 |.ws l o n c=>.ws (ρ l) o n c
 |.wr l n o=>.wr (ρ l) n o
 |.wx l o n m=>.wx (ρ l) o n m
 |.sl m es=>.sl (m.ren ρ) es
 |v=>v
def AV.r1(ρ:Nat→Nat):AV→AV
 |.fn f a c=>.fn f (a.map (AV.r0 ρ)) (c.map (AV.r0 ρ))
 |v=>v.r0 ρ
def AV.r2(ρ:Nat→Nat):AV→AV
 |.agg cs=>.agg (cs.map (AV.r1 ρ))
 |v=>v.r1 ρ
def AV.ren(ρ:Nat→Nat):AV→AV
 |.tup vs=>.tup (vs.map (AV.r2 ρ))
 |v=>v.r2 ρ
def AV.o0(n:Nat):AV→Bool
 |.ptr l _=>decide (l<n)
 |.mp l=>decide (l<n)
 |.ws l _ _ _=>decide (l<n)
 |.wr l _ _=>decide (l<n)
 |.wx l _ _ _=>decide (l<n)
 |.sl (.own l) _=>decide (l<n)
 |.agg _=>false
 |.tup _=>false
 |.fn _ _ _=>false
 |_=>true
def AV.o1(n:Nat):AV→Bool
 |.fn _ a c=>a.all (AV.o0 n)&&c.all (AV.o0 n)
 |v=>v.o0 n
def AV.o2(n:Nat):AV→Bool
 |.agg cs=>cs.all (AV.o1 n)
 |v=>v.o1 n
def AV.ok(n:Nat):AV→Bool
 |.tup vs=>vs.all (AV.o2 n)
 |v=>v.o2 n
def SObj.ren(ρ:Nat→Nat):SObj→SObj
 |.cells cs=>.cells (cs.map (AV.r1 ρ))
 |.row cs e sz=>.row (cs.map (AV.r1 ρ)) e sz
 |.loop b D fn es ps asn bdy st=>.loop b D fn (es.map (AV.ren ρ)) ps asn bdy st
 |.map es=>.map (es.map fun p=>(p.1.r2 ρ,p.2.r2 ρ))
 |o=>o
def SObj.ok(n:Nat):SObj→Bool
 |.cells cs=>cs.all (AV.o1 n)
 |.row cs _ _=>cs.all (AV.o1 n)
 |.loop _ _ _ es _ _ _ _=>es.all (AV.ok n)
 |.map es=>es.all fun p=>p.1.o2 n&&p.2.o2 n
 |_=>true
structure RenOk(w:World)(g:Gh)(w':World)(g':Gh)(ρ:Nat→Nat)(n:Nat):Prop where
 noid:Le w g.noid w' g'.noid
 ids:∀l,l<n→l<g.nid→ρ l<g'.nid∧g'.pl (ρ l)=g.pl l∧g'.buf (ρ l)=g.buf l∧g'.wm (ρ l)=g.wm l∧g'.cap (ρ l)=g.cap l
section
variable {w w':World} {g g':Gh} {ρ:Nat→Nat} {n:Nat}
theorem Rel.r0(H:RenOk w g w' g' ρ n){v:AV}{cv:Value}(h:Rel w g v cv)(hk:v.o0 n=true):Rel w' g' (v.r0 ρ) cv:=by
 cases h with
 |bo=>exact .bo _ _
 |it=>exact .it _ _ _
 |st=>exact .st _ _
 |ot _ _ h=>exact .ot _ _ h
 |junk=>exact .junk _ _
 | sl _ m es A c sz cu hc hcm hsz hA h1 hr hm=>
  refine .sl _ _ es A c sz cu hc hcm hsz (fun h0=>?_) h1 (fun j u hu=>(hr j u hu).le H.noid) ?_
  ·obtain⟨b,o,rfl,hcell⟩:=hA h0
   exact⟨b,o,rfl,fun j hj=>⟨H.noid.G b _ _ (hcell j hj).1 (hcell j hj).2,H.noid.cell b _ _ (hcell j hj).1 (hcell j hj).2⟩⟩
  ·cases m with
   |ro=>trivial
   |full=>exact hm
   |own l=>
    have hl:l<n:=by simpa[AV.o0] using hk
    obtain⟨a,b,c',d⟩:=hm;obtain⟨e1,e2,e3,e4,e5⟩:=H.ids l hl a;refine⟨e1,by rw[e3];exact b,by rw[e4];exact c',?_⟩
    rw[e2,e4,e5];exact d
 |agg=>simp[AV.o0]at hk
 |tup=>simp[AV.o0]at hk
 |ptr _ l off hl hb=>
  have hln:l<n:=by simpa[AV.o0] using hk
  obtain⟨e1,e2,e3,e4,e5⟩:=H.ids l hln hl;rw[←e2];exact .ptr _ _ off e1 (e3.trans hb)
 |pst _ e off b o cu hA h1 hr=>
  exact .pst _ e off b o cu (fun j hj=>⟨H.noid.G b _ _ (hA j hj).1 (hA j hj).2,H.noid.cell b _ _ (hA j hj).1 (hA j hj).2⟩) h1 fun j u hu=>(hr j u hu).le H.noid
 |fn=>simp[AV.o0]at hk
 |fm _ es b me clock hG hb hs hkr hvr=>
  have :=H.noid.map b me clock hG hb;exact .fm _ es b me clock this.1 this.2 hs (fun j u x hu hx=>(hkr j u x hu hx).le H.noid) fun j u x hu hx=>(hvr j u x hu hx).le H.noid
 |mp _ l hl hb=>
  have hln:l<n:=by simpa[AV.o0] using hk
  obtain⟨e1,e2,e3,e4,e5⟩:=H.ids l hln hl;rw[←e2];exact .mp _ _ e1 (e3.trans hb)
 |ws _ l o n' c hl hb hc hm=>
  have hln:l<n:=by simpa[AV.o0] using hk
  obtain⟨e1,e2,e3,e4,e5⟩:=H.ids l hln hl;rw[←e2];exact .ws _ _ o n' c e1 (e3.trans hb) hc hm
 |wr _ l n' c A hl hb hw hc hm h0 hA=>
  have hln:l<n:=by simpa[AV.o0] using hk
  obtain⟨e1,e2,e3,e4,e5⟩:=H.ids l hln hl;exact .wr _ _ n' c A e1 (e3.trans hb) (by rw[e4];exact hw) hc hm h0 (by rw[e2,e4,e5];exact hA)
 |wp _ l n' off b o hl hb hw hA=>
  have hln:l<n:=by simpa[AV.o0] using hk
  obtain⟨e1,e2,e3,e4,e5⟩:=H.ids l hln hl;exact .wp _ _ n' off b o e1 (e3.trans hb) (by rw[e4];exact hw) (by rw[e2,e4];exact hA)
 |wx _ l o n' m c A hl hb hm hc hcm hx=>
  have hln:l<n:=by simpa[AV.o0] using hk
  obtain⟨e1,e2,e3,e4,e5⟩:=H.ids l hln hl;exact .wx _ _ o n' m c A e1 (e3.trans hb) (by rw[e4];exact hm) hc hcm (by rw[e2,e4,e5];exact hx)
theorem JZ{f:AV→AV}{p:AV→Bool}{vs:List AV}{arr:Array Value}(hf:∀u v,p u=true→Rel w g u v→Rel w' g' (f u) v)(hk:vs.all p=true)
  (h:∀(j:Nat) u v,vs[j]? = some u→arr[j]? = some v→Rel w g u v):∀(j:Nat) u v,(vs.map f)[j]? = some u→arr[j]? = some v→Rel w' g' u v:=by
 intro j u v hu hv;rw[List.getElem?_map]at hu
 obtain⟨u',hu',rfl⟩:=Option.map_eq_some_iff.1 hu;exact hf u' v ((List.all_eq_true.1 hk) u' (List.mem_iff_getElem?.2 ⟨j,hu'⟩)) (h j u' v hu' hv)
theorem Rel.r1(H:RenOk w g w' g' ρ n){v:AV}{cv:Value}(h:Rel w g v cv)(hk:v.o1 n=true):Rel w' g' (v.r1 ρ) cv:=by
 cases v with
 | fn f a c=>
  simp only[AV.o1,Bool.and_eq_true]at hk;cases h with
  |fn _ _ _ _ fa ca hf hc hrf hrc=>
   exact .fn _ f _ _ fa ca (by simpa using hf) (by simpa using hc) (JZ (fun u v hp hr=>hr.r0 H hp) hk.1 hrf) (JZ (fun u v hp hr=>hr.r0 H hp) hk.2 hrc)
 |_=>exact Rel.r0 H h hk
theorem Rel.r2(H:RenOk w g w' g' ρ n){v:AV}{cv:Value}(h:Rel w g v cv)(hk:v.o2 n=true):Rel w' g' (v.r2 ρ) cv:=by
 cases v with
 |agg cs=>
  cases h with
  |agg _ _ arr hn h1 hr=>exact .agg _ _ arr (by simpa using hn) h1 (JZ (fun u v hp hr=>hr.r1 H hp) hk hr)
 |_=>exact Rel.r1 H h hk
theorem Rel.ren(H:RenOk w g w' g' ρ n){v:AV}{cv:Value}(h:Rel w g v cv)(hk:v.ok n=true):Rel w' g' (v.ren ρ) cv:=by
 cases v with
 |tup vs=>
  cases h with
  |tup _ _ arr hn hr=>exact .tup _ _ arr (by simpa using hn) (JZ (fun u v hp hr=>hr.r2 H hp) hk hr)
 |_=>exact Rel.r2 H h hk
structure UnOk(w:World)(g:Gh)(w':World)(g':Gh)(ρ:Nat→Nat)(n:Nat):Prop where
 noid:Le w g.noid w' g'.noid
 ids:∀l,l<n→l<g'.nid∧g'.pl l=g.pl (ρ l)∧g'.buf l=g.buf (ρ l)∧g'.wm l=g.wm (ρ l)∧g'.cap l=g.cap (ρ l)
theorem Rel.u0(H:UnOk w g w' g' ρ n){v:AV}{cv:Value}(h:Rel w g (v.r0 ρ) cv)(hk:v.o0 n=true):Rel w' g' v cv:=by
 cases v with
 |bo b=>cases h;exact .bo _ _
 |it k m=>cases h;exact .it _ _ _
 |st l=>cases h;exact .st _ _
 |ot v=>cases h with |ot _ _ h=>exact .ot _ _ h
 |junk=>exact .junk _ _
 | sl m es=>
  cases h with
  | sl _ _ _ A c sz cu hc hcm hsz hA h1 hr hm=>
   refine .sl _ _ es A c sz cu hc hcm hsz (fun h0=>?_) h1 (fun j u hu=>(hr j u hu).le H.noid) ?_
   ·obtain⟨b,o,rfl,hcell⟩:=hA h0
    exact⟨b,o,rfl,fun j hj=>⟨H.noid.G b _ _ (hcell j hj).1 (hcell j hj).2,H.noid.cell b _ _ (hcell j hj).1 (hcell j hj).2⟩⟩
   ·cases m with
    |ro=>trivial
    |full=>exact hm
    |own l=>
     have hl:l<n:=by simpa[AV.o0] using hk
     obtain⟨a,b,c',d⟩:=hm;obtain⟨e1,e2,e3,e4,e5⟩:=H.ids l hl;refine⟨e1,by rw[e3];exact b,by rw[e4];exact c',?_⟩
     rw[e2,e4,e5];exact d
 |agg=>simp[AV.o0]at hk
 |tup=>simp[AV.o0]at hk
 |fn=>simp[AV.o0]at hk
 | ptr l off=>
  have hln:l<n:=by simpa[AV.o0] using hk
  obtain⟨e1,e2,e3,e4,e5⟩:=H.ids l hln;cases h with
  |ptr _ _ _ hl hb=>
   rw[←e2];exact .ptr _ _ off e1 (e3.trans hb)
 | pst e off=>
  cases h with
  |pst _ _ _ b o cu hA h1 hr=>
   exact .pst _ e off b o cu (fun j hj=>⟨H.noid.G b _ _ (hA j hj).1 (hA j hj).2,H.noid.cell b _ _ (hA j hj).1 (hA j hj).2⟩) h1 fun j u hu=>(hr j u hu).le H.noid
 | fm es=>
  cases h with
  |fm _ _ b me clock hG hb hs hkr hvr=>
   have :=H.noid.map b me clock hG hb;exact .fm _ es b me clock this.1 this.2 hs (fun j u x hu hx=>(hkr j u x hu hx).le H.noid) fun j u x hu hx=>(hvr j u x hu hx).le H.noid
 | mp l=>
  have hln:l<n:=by simpa[AV.o0] using hk
  obtain⟨e1,e2,e3,e4,e5⟩:=H.ids l hln;cases h with
  |mp _ _ hl hb=>
   rw[←e2];exact .mp _ _ e1 (e3.trans hb)
 | ws l o n' c=>
  have hln:l<n:=by simpa[AV.o0] using hk
  obtain⟨e1,e2,e3,e4,e5⟩:=H.ids l hln;cases h with
  |ws _ _ _ _ _ hl hb hc hm=>
   rw[←e2];exact .ws _ _ o n' c e1 (e3.trans hb) hc hm
 | wr l n' o=>
  have hln:l<n:=by simpa[AV.o0] using hk
  obtain⟨e1,e2,e3,e4,e5⟩:=H.ids l hln;cases h with
  |wr _ _ _ c A hl hb hw hc hm h0 hA=>
   exact .wr _ _ n' c A e1 (e3.trans hb) (by rw[e4];exact hw) hc hm h0 (by rw[e2,e4,e5];exact hA)
  |wp _ _ _ off b o hl hb hw hA=>
   exact .wp _ _ n' off b o e1 (e3.trans hb) (by rw[e4];exact hw) (by rw[e2,e4];exact hA)
 | wx l o n' m=>
  have hln:l<n:=by simpa[AV.o0] using hk
  obtain⟨e1,e2,e3,e4,e5⟩:=H.ids l hln;cases h with
  |wx _ _ _ _ _ c A hl hb hm hc hcm hx=>
   exact .wx _ _ o n' m c A e1 (e3.trans hb) (by rw[e4];exact hm) hc hcm (by rw[e2,e4,e5];exact hx)
theorem IQ{f:AV→AV}{p:AV→Bool}{vs:List AV}{arr:Array Value}(hf:∀u v,p u=true→Rel w g (f u) v→Rel w' g' u v)(hk:vs.all p=true)
  (h:∀(j:Nat) u v,(vs.map f)[j]? = some u→arr[j]? = some v→Rel w g u v):∀(j:Nat) u v,vs[j]? = some u→arr[j]? = some v→Rel w' g' u v:=by
 intro j u v hu hv;exact hf u v ((List.all_eq_true.1 hk) u (List.mem_iff_getElem?.2 ⟨j,hu⟩)) (h j (f u) v (by rw[List.getElem?_map,hu];rfl) hv)
theorem Rel.u1(H:UnOk w g w' g' ρ n){v:AV}{cv:Value}(h:Rel w g (v.r1 ρ) cv)(hk:v.o1 n=true):Rel w' g' v cv:=by
 cases v with
 | fn f a c=>
  simp only[AV.o1,Bool.and_eq_true]at hk;cases h with
  |fn _ _ _ _ fa ca hf hc hrf hrc=>
   exact .fn _ f _ _ fa ca (by simpa using hf) (by simpa using hc) (IQ (fun u v hp hr=>Rel.u0 H hr hp) hk.1 hrf) (IQ (fun u v hp hr=>Rel.u0 H hr hp) hk.2 hrc)
 |_=>exact Rel.u0 H h hk
theorem Rel.u2(H:UnOk w g w' g' ρ n){v:AV}{cv:Value}(h:Rel w g (v.r2 ρ) cv)(hk:v.o2 n=true):Rel w' g' v cv:=by
 cases v with
 |agg cs=>
  cases h with
  |agg _ _ arr hn h1 hr=>exact .agg _ _ arr (by simpa using hn) h1 (IQ (fun u v hp hr=>Rel.u1 H hr hp) hk hr)
 |_=>exact Rel.u1 H h hk
theorem Rel.unren(H:UnOk w g w' g' ρ n){v:AV}{cv:Value}(h:Rel w g (v.ren ρ) cv)(hk:v.ok n=true):Rel w' g' v cv:=by
 cases v with
 |tup vs=>
  cases h with
  |tup _ _ arr hn hr=>exact .tup _ _ arr (by simpa using hn) (IQ (fun u v hp hr=>Rel.u2 H hr hp) hk hr)
 |_=>exact Rel.u2 H h hk
end
def Gh.sub(g:Gh)(κ:List Nat):Gh:=
 { G:=g.G,pl:=fun i=>g.pl (κ.getD i 0),own:=fun i=>g.own (κ.getD i 0),nid:=κ.length,buf:=fun i=>g.buf (κ.getD i 0),wm:=fun i=>g.wm (κ.getD i 0),cap:=fun i=>g.cap (κ.getD i 0) }
def Az(κ:List Nat)(i:Nat):Nat:=κ.getD i 0
theorem HY(w:World)(g:Gh)(κ:List Nat):UnOk w g w (g.sub κ) (Az κ) κ.length:=
 ⟨⟨fun _ _ _ _ h=>h,fun _ _ _ h _=>h,Nat.le_refl _,fun l hl=>absurd hl (Nat.not_lt_zero _),fun _ _ _ h h'=>⟨h,h'⟩⟩,fun l hl=>⟨hl,rfl,rfl,rfl,rfl⟩⟩
theorem G7.un{w:World}{g:Gh}{κ:List Nat}{i:Nat}(hi:i<κ.length){o:SObj}(h:G7 w g (Az κ i) (o.ren (Az κ)))(hk:o.ok κ.length=true):G7 w (g.sub κ) i o:=by
 cases o with
 |cells cs=>
  obtain⟨h1,h2,h3,arr,T,fr,h4,h5,h6,h7,h8⟩:=h;refine⟨h1,h2,h3,arr,T,fr,h4,h5,by simpa using h6,h7,?_⟩
  exact IQ (fun u v hp hr=>Rel.u1 (HY w g κ) hr hp) hk h8
 |buf n e sz=>exact h
 |ext X=>exact h
 |map es=>
  obtain⟨h1,h2,h3,me,clock,h4,h5,h6,h7,h8⟩:=h;refine⟨h1,h2,h3,me,clock,h4,by simpa using h5,h6,h7,fun j u x hu hx=>?_⟩
  have hp:=List.all_eq_true.1 hk u (List.mem_of_getElem? hu);simp only[Bool.and_eq_true]at hp;have :=h8 j (u.1.r2 (Az κ),u.2.r2 (Az κ)) x (by rw[List.getElem?_map,hu];rfl) hx
  exact⟨Rel.u2 (HY w g κ) this.1 hp.1,Rel.u2 (HY w g κ) this.2 hp.2⟩
 |siter s pos=>exact h
 |dead=>trivial
 |loop b D fn es ps asn bdy st=>
  obtain⟨h1,h2,h3,h4,tmps,h5,h6,h7⟩:=h;exact⟨h1,h2,h3,h4,tmps,h5,by simpa using h6,IQ (fun u v hp hr=>Rel.unren (HY w g κ) hr hp) hk h7⟩
 |row cs e sz=>
  obtain⟨h1,h2,h3⟩:=h;refine⟨h1,⟨h2.1,by have :=h2.2;rw[List.length_map]at this;exact this⟩,?_⟩
  rcases h3 with⟨h3,h4⟩|⟨h3,h4,arr,fr,h5,h6,h7,h8,h9,h10⟩
  ·exact .inl ⟨h3,by simpa using h4⟩
  ·exact .inr ⟨h3,h4,arr,fr,h5,h6,h7,by simpa using h8,by simpa using h9,IQ (fun u v hp hr=>Rel.u1 (HY w g κ) hr hp) hk h10⟩
structure SubOk(κ:List Nat)(S S':Ae):Prop where
 nodup:κ.Nodup
 len:S'.length=κ.length
 ok:∀i o,S'[i]? = some o→o.ok κ.length=true∧S[Az κ i]? = some (o.ren (Az κ))
theorem Su{κ:List Nat}(h:κ.Nodup){i j:Nat}(hi:i<κ.length)(hj:j<κ.length)(e:Az κ i=Az κ j):i=j:=by
 unfold Az at e;rw[List.getD_eq_getElem?_getD,List.getD_eq_getElem?_getD,List.getElem?_eq_getElem hi,List.getElem?_eq_getElem hj]at e
 have e':κ[i]=κ[j]:=by simpa using e
 have hp:=List.pairwise_iff_getElem.1 h;rcases Nat.lt_trichotomy i j with hij|hij|hij
 ·exact absurd e' (hp i j hi hj hij)
 ·exact hij
 ·exact absurd e'.symm (hp j i hj hi hij)
theorem WF.sub{w:World}{g:Gh}{S S':Ae}{κ:List Nat}(h:WF w g S)(hs:SubOk κ S S'):WF w (g.sub κ) S':=by
 have hlt:∀i,i<κ.length→Az κ i<g.nid:=by
  intro i hi;have hi':i<S'.length:=by rw[hs.len];exact hi
  have h1:S'[i]? = some S'[i]:=List.getElem?_eq_getElem hi'
  have h2:=(hs.ok i _ h1).2;rw[h.nid];exact(List.getElem?_eq_some_iff.1 h2).1
 refine⟨hs.len.symm,fun i o hi=>?_,fun i j b hi hj hb hb'=>?_,fun i b hi hb=>h.lt (Az κ i) b (hlt i hi) hb,h.tab⟩
 ·have hil:i<κ.length:=by rw[←hs.len];exact(List.getElem?_eq_some_iff.1 hi).1
  obtain⟨h1,h2⟩:=hs.ok i o hi;exact(h.obj _ _ h2).un hil h1
 ·exact Su hs.nodup hi hj (h.disj _ _ b (hlt i hi) (hlt j hj) hb hb')
end Pe
namespace Pe
open Go Go.RowKit
variable [Tab]
def NJ(P:Program)(f:FuncId):Bool:=
 match P.funcs[f]? with
 |some fn=>fn.name != "runtime.NumGoroutine" && fn.body.isSome
 |none=>false
def FZ(w:World)(g:Gh)(args:List AV)(cargs:Array Value):Prop:=
 cargs.size=args.length ∧ ∀(j:Nat) u v,args[j]? = some u→cargs[j]? = some v→Rel w g u v
structure AC(P:Program)(f:FuncId)(args:List AV)(S:Ae)(v:AV)(S':Ae):Prop where
 can:NJ P f=true
 run:∀(w:World) (g:Gh) (cargs:Array Value),WF w g S→FZ w g args cargs →
  Calls P f cargs w fun r w'=>∃cv g',r=.returned cv∧WF w' g' S'∧Rel w' g' v cv∧Evo w g w' g'
section
variable {P:Program}
theorem QX{f:FuncId}(h:NJ P f=true)(args:Array Value)(w:World):(callFunc f args).run P w=.ok (.enter f args) w:=by
 unfold NJ at h;split at h
 ·rename_i fn hf
  simp only[Bool.and_eq_true,bne_iff_ne,ne_eq]at h;obtain⟨h1,h2⟩:=h;obtain⟨bd,hb⟩:=Option.isSome_iff_exists.1 h2;simp[callFunc,run_program,hf,h1,hb]
 ·cases h
theorem Ny{o:Oper}{e:Af}{S S':Ae}{v:AV}{c:Call}{fo:Operand}{f:FuncId}{fa ca:List AV}(ho:o.op=.call c)(hc:c.callee=.value fo)(hf:ev e fo=.fn (.func f) fa ca)
  (h:AC P f (fa++c.args.toList.map (ev e)++ca) S v S'):AR P o e S v S':=by
 intro a w g hw hr K Q hK;have hfo:=hr fo (by rw[ho];simp[Op.operands,Call.operands,hc])
 rw[hf]at hfo;generalize hcf:a.eval fo=cf at hfo;cases hfo with
 | fn _ _ _ _ fav cav hfs hcs hrf hrc=>
  have hargs:FZ w g (fa++c.args.toList.map (ev e)++ca) (fav++c.args.map a.eval++cav):=by
   refine⟨by simp[hfs,hcs],fun j u v hu hv=>?_⟩
   have hv':(fav.toList++c.args.toList.map a.eval++cav.toList)[j]? = some v:=by
    rw[←hv,←Array.getElem?_toList]
    simp
   have l1:fav.toList.length=fa.length:=by simpa using hfs
   rw[List.append_assoc,List.getElem?_append]at hu hv'
   rw[l1]at hv';split at hu
   ·rename_i h1
    rw[if_pos h1]at hv';exact hrf j u v hu (by simpa using hv')
   ·rename_i h1
    rw[if_neg h1]at hv';rw[List.getElem?_append]at hu hv'
    simp only[List.length_map]at hu hv';split at hu
    ·rename_i h2
     rw[if_pos h2]at hv';rw[List.getElem?_map]at hu hv'
     obtain⟨x,hx,rfl⟩:=Option.map_eq_some_iff.1 hu;rw[hx]at hv';cases hv'
     refine hr x ?_
     rw[ho];simp only[Op.operands,Call.operands,Array.toList_append,List.mem_append];exact .inr (List.mem_iff_getElem?.2 ⟨_,hx⟩)
    ·rename_i h2
     rw[if_neg h2]at hv';exact hrc _ u v hu (by simpa using hv')
  have hrun:(execOp a.eval o).run P w=.ok (.enter f (fav++c.args.map a.eval++cav)) w:=by
   unfold execOp;simp only[ho];show Sem.run P (do let d ←resolve a.eval c o.type;invoke d.target d.args) w=_
   simp only[resolve,hc,hcf,Deferred.ofValue,Sem.run_bind,Sem.run_pure,Result.andThen_ok,invoke];rw[QX h.can]
  refine Zb8 hrun ((h.run w g _ hw hargs).mono ?_)
  rintro r w' ⟨cv,g',rfl,h1,h2,h3⟩
  exact⟨cv,rfl,hK cv w' g' h1 h2 h3⟩
end
def ext(κ:List Nat)(N:Nat):Nat→Nat:=fun i=>if i<κ.length then Az κ i else N+(i-κ.length)
def Es:Ae→List Nat→Ae→Ae
 |T,[],_=>T
 |T,l::κ,o::S=>Es (T.set l o) κ S
 |T,_::_,[]=>T
def after(κ:List Nat)(T S':Ae):Ae:=Es T κ (S'.map (·.ren (ext κ T.length)))++(S'.drop κ.length).map (·.ren (ext κ T.length))
theorem OE:∀(κ:List Nat) (T R:Ae),κ.Nodup→(∀l∈κ,l<T.length)→κ.length≤R.length →
  (Es T κ R).length=T.length∧(∀i,i<κ.length→(Es T κ R)[Az κ i]? = R[i]?) ∧ ∀l,l∉κ→(Es T κ R)[l]? = T[l]?
 |[],T,R,_,_,_=>⟨by rw[Es],fun i hi=>absurd hi (Nat.not_lt_zero _),fun _ _=>by rw[Es]⟩
 |l::κ,T,[],_,_,hl=>by simp at hl
 | l::κ,T,o::R,hn,hb,hl=>by
  obtain⟨hn1,hn2⟩:=List.nodup_cons.1 hn;obtain⟨h1,h2,h3⟩:=OE κ (T.set l o) R hn2 (fun x hx=>by rw[List.length_set];exact hb x (by simp[hx])) (by simpa using hl)
  refine⟨by rw[Es,h1,List.length_set],fun i hi=>?_,fun x hx=>?_⟩
  ·cases i with
   |zero=>
    show(Es (T.set l o) κ R)[l]? = some o
    rw[h3 l hn1,List.getElem?_set_self (hb l (by simp))]
   |succ i=>exact h2 i (by simpa using hi)
  ·simp only[List.mem_cons,not_or]at hx
   rw[Es,h3 x hx.2,List.getElem?_set_ne (fun e=>hx.1 e.symm)]
section
variable {P:Program}
theorem AC.frame{f:FuncId}{args:List AV}{S S' T:Ae}{v:AV}(κ:List Nat)(h:AC P f args S v S')(hs:SubOk κ T S)(ha:args.all (AV.ok κ.length)=true)(hv:v.ok S'.length=true)
  (hS':∀(i:Nat) (o:SObj),S'[i]? = some o→o.ok S'.length=true):AC P f (args.map (AV.ren (Az κ))) T (v.ren (ext κ T.length)) (after κ T S'):=by
 refine⟨h.can,fun w g cargs hw hargs=>?_⟩
 have hwc:=hw.sub hs;have hlt:∀i,i<κ.length→Az κ i<g.nid:=by
  intro i hi;have hi':i<S.length:=by rw[hs.len];exact hi
  have h2:=(hs.ok i _ (List.getElem?_eq_getElem hi')).2
  rw[hw.nid];exact(List.getElem?_eq_some_iff.1 h2).1
 refine(h.run w (g.sub κ) cargs hwc ⟨by rw[hargs.1];simp,IQ (fun u v hp hr=>Rel.unren (HY w g κ) hr hp) ha hargs.2⟩).mono ?_
 rintro r w' ⟨cv,gc,rfl,hw',hrv,hevo⟩
 have hnT:g.nid=T.length:=hw.nid;have hnS:gc.nid=S'.length:=hw'.nid;have hκS:κ.length≤S'.length:=by rw[←hnS];exact hevo.nid
 have hmem:∀l,l∈κ→κ.idxOf l<κ.length∧Az κ (κ.idxOf l)=l:=by
  intro l hl;have h1:=List.idxOf_lt_length_iff.2 hl;refine⟨h1,?_⟩
  unfold Az;rw[List.getD_eq_getElem?_getD,List.getElem?_eq_getElem h1]
  simp
 have hidx:∀i,i<κ.length→Az κ i∈κ∧κ.idxOf (Az κ i)=i:=by
  intro i hi;have hm:Az κ i∈κ:=by
   unfold Az;rw[List.getD_eq_getElem?_getD,List.getElem?_eq_getElem hi]
   exact List.getElem_mem hi
  exact⟨hm,Su hs.nodup (hmem _ hm).1 hi (hmem _ hm).2⟩
 -- which number of the call a number of the caller is
 let ι:Nat→Option Nat:=fun l=>if l<T.length then(if l∈κ then some (κ.idxOf l)else none)else some (l-T.length+κ.length)
 have ι1:∀i,i<κ.length→ι (Az κ i)=some i:=fun i hi=>by
  have h1:=hlt i hi;show(if _ then _ else _)=_
  rw[if_pos (by omega),if_pos (hidx i hi).1,(hidx i hi).2]
 have ι2:∀i,κ.length≤i→ι (T.length+(i-κ.length))=some i:=fun i hi=>by
  show(if _ then _ else _)=_
  rw[if_neg (by omega)]
  congr 1
  omega
 have ιe:∀i,ι (ext κ T.length i)=some i:=fun i=>by
  unfold ext;split
  ·exact ι1 i (by assumption)
  ·exact ι2 i (by omega)
 have ι3:∀l i,ι l=some i→l=ext κ T.length i:=fun l i hl=>by
  have hl':(if l<T.length then(if l∈κ then some (κ.idxOf l)else none)else some (l-T.length+κ.length))=some i:=hl
  split at hl'
  ·split at hl'
   ·rename_i hm
    cases hl'
    unfold ext;rw[if_pos (hmem l hm).1,(hmem l hm).2]
   ·cases hl'
  ·cases hl'
   unfold ext;rw[if_neg (by omega)]
   omega
 have ι4:∀l,ι l=none→l<T.length∧l∉κ:=fun l hl=>by
  have hl':(if l<T.length then(if l∈κ then some (κ.idxOf l)else none)else some (l-T.length+κ.length))=none:=hl
  split at hl'
  ·split at hl'
   ·cases hl'
   ·exact⟨by assumption,by assumption⟩
  ·cases hl'
 let g':Gh:={ G:=gc.G,pl:=fun l=>match ι l with |some i=>gc.pl i|none=>g.pl l,own:=fun l=>match ι l with |some i=>gc.own i|none=>g.own l,nid:=T.length+(S'.length-κ.length),buf:=fun l=>match ι l with |some i=>gc.buf i|none=>g.buf l,wm:=fun l=>match ι l with |some i=>gc.wm i|none=>g.wm l,cap:=fun l=>match ι l with |some i=>gc.cap i|none=>g.cap l }
 have e_pl:∀l i,ι l=some i→g'.pl l=gc.pl i:=fun l i hl=>by show(match ι l with |some i=>gc.pl i|none=>g.pl l)=_;rw[hl]
 have e_own:∀l i,ι l=some i→g'.own l=gc.own i:=fun l i hl=>by show(match ι l with |some i=>gc.own i|none=>g.own l)=_;rw[hl]
 have e_buf:∀l i,ι l=some i→g'.buf l=gc.buf i:=fun l i hl=>by show(match ι l with |some i=>gc.buf i|none=>g.buf l)=_;rw[hl]
 have e_wm:∀l i,ι l=some i→g'.wm l=gc.wm i:=fun l i hl=>by show(match ι l with |some i=>gc.wm i|none=>g.wm l)=_;rw[hl]
 have e_cap:∀l i,ι l=some i→g'.cap l=gc.cap i:=fun l i hl=>by show(match ι l with |some i=>gc.cap i|none=>g.cap l)=_;rw[hl]
 have n_pl:∀l,ι l=none→g'.pl l=g.pl l:=fun l hl=>by show(match ι l with |some i=>gc.pl i|none=>g.pl l)=_;rw[hl]
 have n_own:∀l,ι l=none→g'.own l=g.own l:=fun l hl=>by show(match ι l with |some i=>gc.own i|none=>g.own l)=_;rw[hl]
 have n_buf:∀l,ι l=none→g'.buf l=g.buf l:=fun l hl=>by show(match ι l with |some i=>gc.buf i|none=>g.buf l)=_;rw[hl]
 have n_wm:∀l,ι l=none→g'.wm l=g.wm l:=fun l hl=>by show(match ι l with |some i=>gc.wm i|none=>g.wm l)=_;rw[hl]
 have n_cap:∀l,ι l=none→g'.cap l=g.cap l:=fun l hl=>by show(match ι l with |some i=>gc.cap i|none=>g.cap l)=_;rw[hl]
 have hext_lt:∀i,i<S'.length→ext κ T.length i<g'.nid:=fun i hi=>by
  show _<T.length+(S'.length-κ.length)
  unfold ext;split
  ·rename_i h1;have :=hlt i h1;omega
  ·omega
 have hι_lt:∀l i,l<g'.nid→ι l=some i→i<gc.nid:=fun l i hl hi=>by
  have hl':l<T.length+(S'.length-κ.length):=hl;have he:=ι3 l i hi;rw[hnS];unfold ext at he;split at he
  ·omega
  ·omega
 have hren:RenOk w' gc w' g' (ext κ T.length) S'.length:=⟨⟨fun _ _ _ _ h=>h,fun _ _ _ h _=>h,Nat.le_refl _,fun l hl=>absurd hl (Nat.not_lt_zero _),fun _ _ _ h h'=>⟨h,h'⟩⟩,fun l hl _=>
  ⟨hext_lt l hl,e_pl _ _ (ιe l),e_buf _ _ (ιe l),e_wm _ _ (ιe l),e_cap _ _ (ιe l)⟩⟩
 -- what belongs to others is not the call's
 have hother:∀l b,ι l=none→g.own l b → ∀i,i<(g.sub κ).nid → ¬(g.sub κ).own i b:=fun l b hl hb i hi hb'=>by
  have h4:=ι4 l hl;have :=hw.disj l (Az κ i) b (by omega) (hlt i hi) hb hb'
  exact h4.2 (by rw[this];exact(hidx i hi).1)
 have hle:Le w g w' g':=by
  refine⟨fun b o v hb hv=>hevo.cell b o v hb hv,fun b o v hb hv=>hevo.G b o v hb hv,by show g.nid≤T.length+_;omega,fun l hl=>?_,fun b me c hg hm=>hevo.map b me c hg hm⟩
  cases hι:ι l with
  |none=>exact⟨n_buf l hι,.inl ⟨n_pl l hι,n_wm l hι,n_cap l hι⟩⟩
  | some i=>
   have he:=ι3 l i hι;have hi:i<κ.length:=by
    unfold ext at he;split at he
    ·assumption
    ·omega
   have he':l=Az κ i:=by unfold ext at he;rw[if_pos hi]at he;exact he
   obtain⟨h1,h2⟩:=hevo.keep i hi;rw[e_buf l i hι,e_pl l i hι,e_wm l i hι,e_cap l i hι,he'];exact⟨h1,h2⟩
 have hown_new:∀l b,l<g'.nid→g'.own l b→b<w.heap.size→l<g.nid∧g.own l b:=fun l b hl hb hlt'=>by
  cases hι:ι l with
  |none=>
   rw[n_own l hι]at hb;have :=ι4 l hι;exact⟨by omega,hb⟩
  |some i=>
   rw[e_own l i hι]at hb;obtain⟨h1,h2⟩:=hevo.own i b (hι_lt l i hl hι) hb hlt';have h1:i<κ.length:=h1;have he:=ι3 l i hι;unfold ext at he;rw[if_pos h1]at he;rw[he];exact⟨hlt i h1,h2⟩
 have hsub_un:∀b,(∀l,l<g.nid → ¬g.own l b) → ∀i,i<(g.sub κ).nid → ¬(g.sub κ).own i b:=fun b hb i hi h=>hb (Az κ i) (hlt i hi) h
 refine⟨cv,g',rfl,⟨?_,fun l o hl=>?_,fun l l' b hl hl' hb hb'=>?_,fun l b hl hb=>?_,hw.tab.le hle⟩,hrv.ren hren hv,⟨hle,hevo.os,hevo.tape,hevo.output,hevo.size,fun b hb hn=>hevo.old b hb (hsub_un b hn),hown_new,fun b hb hn=>hevo.Gold b hb (hsub_un b hn)⟩⟩
 ·obtain⟨h1,_,_⟩:=OE κ T (S'.map (·.ren (ext κ T.length))) hs.nodup (fun l hl=>by have :=hlt _ (hmem l hl).1;rw[(hmem l hl).2]at this;omega) (by simpa using hκS)
  show T.length+_=_
  unfold after;rw[List.length_append,h1,List.length_map,List.length_drop]
 ·obtain⟨h1,h2,h3⟩:=OE κ T (S'.map (·.ren (ext κ T.length))) hs.nodup (fun l hl=>by have :=hlt _ (hmem l hl).1;rw[(hmem l hl).2]at this;omega) (by simpa using hκS)
  have hS:∀i o,ι l=some i→(S'.map (·.ren (ext κ T.length)))[i]? = some o→G7 w' g' l o:=by
   intro i o hι ho;rw[List.getElem?_map]at ho
   obtain⟨o',ho',rfl⟩:=Option.map_eq_some_iff.1 ho;have hob:=hw'.obj i o' ho';have hok:=hS' i o' ho';cases o' with
   |cells cs=>
    obtain⟨a1,a2,a3,arr,TT,fr,a4,a5,a6,a7,a8⟩:=hob;refine⟨by rw[e_buf l i hι];exact a1,by rw[e_own l i hι,e_pl l i hι];exact a2,by rw[e_pl l i hι];exact a3,arr,TT,fr,by rw[e_pl l i hι];exact a4,a5,by simpa using a6,a7,?_⟩
    exact JZ (fun u v hp hr=>hr.r1 hren hp) hok a8
   |buf n e sz=>
    obtain⟨a1,a2,a3⟩:=hob;refine⟨by rw[e_buf l i hι];exact a1,by rw[e_wm l i hι];exact a2,?_⟩
    rw[e_own l i hι,e_pl l i hι,e_cap l i hι];exact a3
   |ext X=>
    obtain⟨a1,a2,a3,a4⟩:=hob;refine⟨by rw[e_buf l i hι];exact a1,by rw[e_own l i hι,e_pl l i hι];exact a2,?_,?_⟩
    ·rw[e_own l i hι];exact a3
    ·rw[e_own l i hι,e_pl l i hι];exact a4
   |map es=>
    obtain⟨a1,a2,a3,me,clock,a4,a5,a6,a7,a8⟩:=hob;refine⟨by rw[e_buf l i hι];exact a1,by rw[e_own l i hι,e_pl l i hι];exact a2,by rw[e_pl l i hι];exact a3,me,clock,by rw[e_pl l i hι];exact a4,by simpa using a5,a6,a7,fun j u x hu hx=>?_⟩
    rw[List.getElem?_map]at hu
    obtain⟨u',hu',rfl⟩:=Option.map_eq_some_iff.1 hu;have hp:=List.all_eq_true.1 hok u' (List.mem_of_getElem? hu');simp only[Bool.and_eq_true]at hp;have :=a8 j u' x hu' hx;exact⟨this.1.r2 hren hp.1,this.2.r2 hren hp.2⟩
   |siter s pos=>
    obtain⟨a1,a2,a3,a4⟩:=hob;exact⟨by rw[e_buf l i hι];exact a1,by rw[e_own l i hι,e_pl l i hι];exact a2,by rw[e_pl l i hι];exact a3,by rw[e_pl l i hι];exact a4⟩
   |dead=>trivial
   |loop b D fn es ps asn bdy st=>
    obtain⟨a1,a2,a3,a4,tmps,a5,a6,a7⟩:=hob;exact⟨by rw[e_buf l i hι];exact a1,by rw[e_own l i hι,e_pl l i hι];exact a2,by rw[e_pl l i hι];exact a3,by rw[e_pl l i hι];exact a4,tmps,by rw[e_pl l i hι];exact a5,by simpa using a6,JZ (fun u v hp hr=>hr.ren hren hp) hok a7⟩
   |row cs e sz=>
    obtain⟨a1,a2,a3⟩:=hob;refine⟨by rw[e_buf l i hι];exact a1,by rw[e_wm l i hι];simpa using a2,?_⟩
    rw[e_own l i hι,e_pl l i hι,e_cap l i hι];rcases a3 with⟨a3,a4⟩|⟨a3,a4,arr,fr,a5,a6,a7,a8,a9,a10⟩
    ·exact .inl ⟨a3,by simpa using a4⟩
    ·exact .inr ⟨a3,a4,arr,fr,a5,a6,a7,by simpa using a8,by simpa using a9,JZ (fun u v hp hr=>hr.r1 hren hp) hok a10⟩
  unfold after at hl;by_cases hlT:l<T.length
  ·rw[List.getElem?_append_left (by rw[h1];exact hlT)]at hl
   by_cases hm:l∈κ
   ·have h5:=hmem l hm
    have :=h2 _ h5.1;rw[h5.2,hl]at this;have hι:ι l=some (κ.idxOf l):=by have :=ι1 _ h5.1;rw[h5.2]at this;exact this
    exact hS _ o hι this.symm
   ·rw[h3 l hm]at hl
    have hι:ι l=none:=by show(if _ then _ else _)=_;rw[if_pos hlT,if_neg hm]
    exact(hw.obj l o hl).keep hle (n_pl l hι) (n_buf l hι) (n_wm l hι) (n_cap l hι) (n_own l hι) (fun b hb=>hevo.Gold b (hw.lt l b (by omega) hb) (hother l b hι hb)) (fun b hb=>hevo.old b (hw.lt l b (by omega) hb) (hother l b hι hb))
  ·rw[List.getElem?_append_right (by rw[h1];omega),h1,List.getElem?_map,List.getElem?_drop]at hl
   obtain⟨o',ho',rfl⟩:=Option.map_eq_some_iff.1 hl;have hι:ι l=some (κ.length+(l-T.length)):=by
    have :=ι2 (κ.length+(l-T.length)) (by omega)
    rw[show T.length+(κ.length+(l-T.length)-κ.length)=l from by omega]at this
    exact this
   exact hS _ _ hι (by rw[List.getElem?_map,ho'];rfl)
 ·cases hι:ι l with
  | none=>
   have h4:=ι4 l hι;have hb1:=hb;rw[n_own l hι]at hb1;cases hι':ι l' with
   |none=>
    have h4':=ι4 l' hι';rw[n_own l' hι']at hb';exact hw.disj l l' b (by omega) (by omega) hb1 hb'
   |some j=>
    have :=hown_new l' b hl' hb' (hw.lt l b (by omega) hb1)
    exact hw.disj l l' b (by omega) this.1 hb1 this.2
  | some i=>
   cases hι':ι l' with
   |none=>
    have h4':=ι4 l' hι';rw[n_own l' hι']at hb';have :=hown_new l b hl hb (hw.lt l' b (by omega) hb')
    exact hw.disj l l' b this.1 (by omega) this.2 hb'
   |some j=>
    rw[e_own l i hι]at hb;rw[e_own l' j hι']at hb';have :=hw'.disj i j b (hι_lt l i hl hι) (hι_lt l' j hl' hι') hb hb';rw[ι3 l i hι,ι3 l' j hι',this]
 ·cases hι:ι l with
  |none=>
   rw[n_own l hι]at hb;have :=hw.lt l b (by have :=ι4 l hι;omega) hb
   have :=hevo.size;omega
  |some i=>
   rw[e_own l i hι]at hb;exact hw'.lt i b (hι_lt l i hl hι) hb
end
end Pe
namespace Pe
open Go Go.RowKit Go.MapKept
variable [Tab]
def JY(zs:List AV)(n:Nat):List AV:=(List.range n).map fun j=>zs.getD (j % zs.length) .junk
theorem WW(z:AV)(n:Nat):JY [z] n=List.replicate n z:=by
 refine List.ext_getElem (by simp[JY]) fun j h1 h2=>?_
 simp[JY,Nat.mod_one]
theorem Zgv{w:World}{g:Gh}{z:Value}(h:∀v∈z.cells.toList,v.oneCell'=true)(n:Nat)(hpos:0<z.cells.size):AI w g (JY (z.cells.toList.map Dk) n) (madeCells z.cells n):=by
 have hget:∀j,j<n→(madeCells z.cells n)[j]? = some (z.cells[j % z.cells.size]'(Nat.mod_lt _ hpos)):=fun j hj=>by
  have:j % z.cells.size<z.cells.size:=Nat.mod_lt _ hpos;simp[madeCells,hj,this]
 refine⟨by simp[JY,madeCells],fun v hv=>?_,fun j u v hu hv=>?_⟩
 ·obtain⟨j,hj⟩:=List.mem_iff_getElem?.1 hv
  have hj:(madeCells z.cells n)[j]? = some v:=by simpa using hj
  have hjn:j<n:=by have :=(Array.getElem?_eq_some_iff.1 hj).1;simpa[madeCells] using this
  rw[hget j hjn]at hj;cases hj
  exact h _ (by simp)
 ·have hjn:j<n:=by have :=(Array.getElem?_eq_some_iff.1 hv).1;simpa[madeCells] using this
  rw[hget j hjn]at hv;cases hv
  have hm:j % z.cells.size<z.cells.size:=Nat.mod_lt _ hpos
  have:u=Dk z.cells[j % z.cells.size]:=by
   rw[JY,List.getElem?_map,List.getElem?_range hjn]at hu
   simp only[Option.map_some,Option.some.injEq,List.length_map,Array.length_toList]at hu;rw[←hu,List.getD_eq_getElem?_getD,List.getElem?_map]
   simp[hm]
  rw[this];exact PM w g _
theorem ZeW{w:World}{g:Gh}{l o b:Nat}(h:Rel w g (.ptr l o) (.pointer (some ⟨b,o,none⟩))):l<g.nid∧g.buf l=false∧g.pl l=b:=by
 generalize hq:Value.pointer (some ⟨b,o,none⟩)=q at h;cases h with
 |ptr _ _ _ hl hb=>
  simp only[Value.pointer.injEq,Option.some.injEq,Addr.mk.injEq]at hq;exact⟨hl,hb,hq.1.symm⟩
def ID(P:Program)(t:TypeId)(l c:AV)(S:Ae):Option (AV×Ae):=
 match Cz P t,l,c with
 |some (e,sz,by_),.it _ n,.it _ m=>match BF P e with
  |some zs=>if 0<n∧n≤m∧Ct m.toNat by_=true then some (.ws S.length 0 n.toNat m.toNat,S++[.cells (JY zs (m.toNat*sz))])else none
  |none=>none
 |_,_,_=>none
section
variable {P:Program}
theorem Ziv{o:Oper}{e:Af}{S S':Ae}{v:AV}{t:TypeId}{x y:Operand}(ho:o.op=.makeSlice t x y)(h:ID P t (ev e x) (ev e y) S=some (v,S')):AR P o e S v S':=
 Dj fun ρ w g hw hr=>by
  have hx:=hr x (by rw[ho];simp[Op.operands])
  have hy:=hr y (by rw[ho];simp[Op.operands])
  unfold ID at h;split at h
  ·rename_i el sz by_ k n k' m ht h1 h2
   obtain⟨hut,hsz0,i,z,hi,hz,rfl,rfl,hzs⟩:=Ir ht;split at h
   ·rename_i zs hzer
    obtain⟨i',z',hi',hz',hone,rfl⟩:=KG hzer;rw[hi]at hi';cases hi';rw[hz]at hz';cases hz';split at h
    ·rename_i hcond
     obtain⟨h0,hnm,hfit⟩:=hcond;cases h
     obtain⟨hf1,hf2⟩:=Je hfit;rw[h1]at hx;rw[h2]at hy;generalize hcx:ρ x=cx at hx;generalize hcy:ρ y=cy at hy;cases hx;cases hy
     have hmm:(m.toNat:Int)=m:=Int.toNat_of_nonneg (by omega)
     have hcb:(i.bytes:Int)*m≤140737488355328:=by
      have h3:((m.toNat*i.bytes:Nat):Int)≤140737488355328:=by omega
      rw[Int.natCast_mul,hmm,Int.mul_comm]at h3;exact h3
     have hrun:=run_make (P:=P) w t el i z hut hi hz k k' n m (by omega) hnm (by omega) (by omega)
     obtain⟨g',h5,h6,h7⟩:=hw.new_cells (Zgv (w:=w) (g:=g) hone (m.toNat*i.size) (by omega)) el
     refine⟨.slice (some ⟨w.heap.size,0,none⟩) n.toNat m.toNat,_,g',?_,h5,?_,h6⟩
     ·unfold execOp
      simp only[ho,hcx,hcy,Sem.run_bind,hrun,Result.andThen_ok,Sem.run_pure]
     ·obtain⟨hl,hb,hp⟩:=ZeW h7
      have :=Rel.ws (w:=w.alloc (.cells (madeCells z.cells (m.toNat*i.size)) el)) g' S.length 0 n.toNat m.toNat hl hb (by omega) (by unfold maxLen;omega)
      rw[hp]at this;exact this
    ·cases h
   ·cases h
  ·cases h
def FP:AV→AV→Option Bool
 |.it k a,.it k' b=>if k=k' then some (a==b)else none
 |.st a,.st b=>some (a==b)
 |.bo a,.bo b=>some (a==b)
 |_,_=>none
def DT(k:AV):List (AV×AV)→Nat→Option (Option (Nat×AV))
 |[],_=>some none
 |(k',v)::r,i=>match FP k k' with
  |some true=>some (some (i,v))
  |some false=>DT k r (i+1)
  |none=>none
def Ey(P:Program)(t:TypeId):Option (Option IntKind×AV):=
 match P.underlying t with
 |some (.map k e)=>match P.underlying k,P.info? e with
  |some (.int q),some i=>i.zero.map fun z=>(some q,E5 z)
  |some .string,some i=>i.zero.map fun z=>(none,E5 z)
  |_,_=>none
 |_=>none
def Gg:Option IntKind→AV→Bool
 |some q,.it k _=>k==q
 |none,.st _=>true
 |_,_=>false
theorem M5{t:TypeId}{b:Option IntKind}{z:AV}(h:Ey P t=some (b,z)):∃k e d i zv,P.underlying t=some (.map k e)∧P.underlying k=some d∧P.info? e=some i∧i.zero=some zv∧z=E5 zv ∧
  (∀(w:World) (g:Gh) (u:AV) (v:Value),Gg b u=true→Rel w g u v→IsKey d v):=by
 unfold Ey at h;split at h
 ·rename_i k e hm
  split at h
  ·rename_i q i hk hi
   obtain⟨zv,hz,h⟩:=Option.map_eq_some_iff.1 h;cases h
   refine⟨k,e,_,i,zv,hm,hk,hi,hz,rfl,fun w g u v hu hr=>?_⟩
   cases u<;>simp[Gg]at hu
   cases hr
   exact hu
  ·rename_i i hk hi
   obtain⟨zv,hz,h⟩:=Option.map_eq_some_iff.1 h;cases h
   refine⟨k,e,_,i,zv,hm,hk,hi,hz,rfl,fun w g u v hu hr=>?_⟩
   cases u<;>simp[Gg]at hu
   cases hr
   trivial
  ·cases h
 ·cases h
theorem Xk{w:World}{g:Gh}{d:TypeDesc}{x y:AV}{cx cy:Value}{r:Bool}(h:FP x y=some r)(hx:Rel w g x cx)(hy:Rel w g y cy)(hk:IsKey d cx):Instr.sameNow d cx cy=some r∧(r=true→cx=cy):=by
 cases x<;>cases y<;>simp only[FP,reduceCtorEq]at h
 ·cases hx;cases hy
  rename_i a b
  cases d<;>simp only[IsKey]at hk
  cases h
  exact⟨rfl,fun e=>by rw[beq_iff_eq.1 e]⟩
 ·cases hx;cases hy
  split at h
  ·rename_i hkk
   cases h
   cases d<;>simp only[IsKey]at hk
   subst hkk;exact⟨by simp[Instr.sameNow],fun e=>by rw[beq_iff_eq.1 e]⟩
  ·cases h
 ·cases hx;cases hy
  cases h
  cases d<;>simp only[IsKey]at hk
  rename_i a b
  refine⟨?_,fun e=>by rw[beq_iff_eq.1 e]⟩
  simp only[Instr.sameNow,Option.some.injEq];rw[Bool.eq_iff_iff];constructor
  ·intro h
   have:(⟨a.toArray⟩:ByteArray)=⟨b.toArray⟩:=by simpa[bytes_beq] using h
   have:a.toArray=b.toArray:=congrArg ByteArray.data this
   have:a=b:=by simpa using this
   simpa using this
  ·intro h
   have:a=b:=by simpa using h
   subst this;simp[bytes_beq]
theorem Ng{w:World}{g:Gh}{d:TypeDesc}{k:AV}{ck:Value}(hk:Rel w g k ck)(hkey:IsKey d ck):∀(es:List (AV×AV)) (me:List MapEntry) (i:Nat) (r:Option (Nat×AV)),me.length=es.length →
  (∀(j:Nat) u x,es[j]? = some u→me[j]? = some x→Rel w g u.1 x.key∧Rel w g u.2 x.val)→DT k es i=some r →
  (r=none∧Instr.findNow d ck me i=some none) ∨ ∃j u x,r=some (i+j,u.2)∧es[j]? = some u∧me[j]? = some x∧Instr.findNow d ck me i=some (some (i+j,x.val))∧ck=x.key∧Rel w g u.2 x.val
 |[],me,i,r,hl,_,h=>by
  obtain rfl:me=[]:=List.eq_nil_of_length_eq_zero hl;cases h
  exact .inl ⟨rfl,rfl⟩
 | u::es,me,i,r,hl,hr,h=>by
  cases me with
  |nil=>simp at hl
  | cons x me=>
   obtain⟨h1,h2⟩:=hr 0 u x rfl rfl;unfold DT at h;split at h
   ·rename_i he
    cases h
    obtain⟨e1,e2⟩:=Xk he hk h1 hkey;exact .inr ⟨0,u,x,rfl,rfl,rfl,by simp[Instr.findNow,e1],e2 rfl,h2⟩
   ·rename_i he
    obtain⟨e1,_⟩:=Xk he hk h1 hkey;rcases Ng hk hkey es me (i+1) r (by simpa using hl) (fun j u x hu hx=>hr (j+1) u x (by simpa using hu) (by simpa using hx)) h with⟨rfl,h3⟩|⟨j,u',x',rfl,h3,h4,h5,h6,h7⟩
    ·exact .inl ⟨rfl,by simp[Instr.findNow,e1,h3]⟩
    ·exact .inr ⟨j+1,u',x',by rw[show i+1+j=i+(j+1)from by omega],by simpa using h3,by simpa using h4,by simp only[Instr.findNow,e1];rw[h5,show i+1+j=i+(j+1)from by omega],h6,h7⟩
   ·cases h
def I8(ok:Bool)(z:AV)(r:Option (Nat×AV)):AV:=
 match r,ok with
 |some (_,v),true=>.tup [v,.bo true]
 |none,true=>.tup [z,.bo false]
 |some (_,v),false=>v
 |none,false=>z
def Gy(m:Option (Option IntKind×AV))(S:Ae)(x k:AV)(ok:Bool):Option AV:=
 match m,x with
 |some (q,z),.mp l=>match S[l]? with
  |some (.map es)=>if Gg q k=true then(DT k es 0).map (I8 ok z)else none
  |_=>none
 |some (q,z),.ot (.map none)=>if Gg q k=true then some (I8 ok z none)else none
 |some (q,z),.fm es=>if Gg q k=true then(DT k es 0).map (I8 ok z)else none
 |_,_=>none
theorem MS{w:World}{g:Gh}{v:AV}{cv:Value}(h:Rel w g v cv)(b:Bool):Rel w g (.tup [v,.bo b]) (.tuple #[cv,.bool b]):=by
 refine .tup _ _ _ rfl fun j u v hu hv=>?_
 match j with
 |0=>cases hu;cases hv;exact h
 |1=>cases hu;cases hv;exact .bo _ _
 |j+2=>simp at hu
theorem LI{w:World}{t:TypeId}{i:TypeInfo}{zv:Value}(hi:P.info? t=some i)(hz:i.zero=some zv):(zeroValue t).run P w=.ok zv w:=by simp[zeroValue,typeInfo,hi,hz]
theorem Ziy{o:Oper}{e:Af}{S:Ae}{v:AV}{t:TypeId}{x k:Operand}{ok:Bool}(ho:o.op=.lookup t x k ok)(h:Gy (Ey P t) S (ev e x) (ev e k) ok=some v):AR P o e S v S:=
 Dj fun ρ w g hw hr=>by
  have hx:=hr x (by rw[ho];simp[Op.operands])
  have hk:=hr k (by rw[ho];simp[Op.operands])
  suffices H:∃cv,(Instr.lookup t (ρ x) (ρ k) ok).run P w=.ok cv w∧Rel w g v cv by
   obtain⟨cv,h1,h2⟩:=H;refine⟨cv,w,g,?_,hw,h2,Evo.refl w g⟩
   unfold execOp;simp only[ho,Sem.run_bind,h1,Result.andThen_ok,Sem.run_pure]
  unfold Gy at h;split at h
  ·rename_i q z l hm hxe
   obtain⟨kt,et,d,i,zv,hmt,hkd,hi,hz,rfl,hkey⟩:=M5 hm;rw[hxe]at hx;generalize ρ x=cx at hx;cases hx
   split at h
   ·rename_i es hS
    obtain⟨hb,hown,hG,me,clock,hheap,hsz,hlt,hnd,hrel⟩:=hw.obj l _ hS;split at h
    ·rename_i hkok
     obtain⟨r,hf,rfl⟩:=Option.map_eq_some_iff.1 h;have hik:=hkey w g _ _ hkok hk;have hck:∀b,(Instr.checkKey b 10000 kt (ρ k)).run P w=.ok () w:=fun b=>run_checkKey (P:=P) (w:=w) hkd hik b 9999
     rcases Ng hk hik es me.toList 0 r (by simpa using hsz) (fun j u x hu hx=>hrel j u x hu (by simpa using hx)) hf with⟨rfl,h3⟩|⟨j,u,x',rfl,h3,h4,h5,h6,h7⟩
     ·have hfk:=run_findKey (P:=P) (w:=w) hkd h3
      cases ok with
      |true=>exact⟨_,by simp[Instr.lookup,run_underlying hmt,Go.MapKept.run_getObj_map hheap,hck,hfk,LI hi hz],MS (Kg w g zv) false⟩
      |false=>exact⟨_,by simp[Instr.lookup,run_underlying hmt,Go.MapKept.run_getObj_map hheap,hck,hfk,LI hi hz],Kg w g zv⟩
     ·have hfk:=run_findKey (P:=P) (w:=w) hkd h5
      cases ok with
      |true=>exact⟨_,by simp[Instr.lookup,run_underlying hmt,Go.MapKept.run_getObj_map hheap,hck,hfk],MS h7 true⟩
      |false=>exact⟨_,by simp[Instr.lookup,run_underlying hmt,Go.MapKept.run_getObj_map hheap,hck,hfk],h7⟩
    ·cases h
   ·cases h
  ·rename_i q z hm hxe
   obtain⟨kt,et,d,i,zv,hmt,hkd,hi,hz,rfl,hkey⟩:=M5 hm;rw[hxe]at hx;generalize ρ x=cx at hx;cases hx
   split at h
   ·rename_i hkok
    cases h
    have hik:=hkey w g _ _ hkok hk;have hck:∀b,(Instr.checkKey b 10000 kt (ρ k)).run P w=.ok () w:=fun b=>run_checkKey (P:=P) (w:=w) hkd hik b 9999
    have hfk:(Instr.findKey kt (ρ k) []).run P w=.ok none w:=run_findKey (P:=P) (w:=w) hkd rfl;cases ok with
    |true=>exact⟨_,by simp[Instr.lookup,run_underlying hmt,hck,hfk,LI hi hz],MS (Kg w g zv) false⟩
    |false=>exact⟨_,by simp[Instr.lookup,run_underlying hmt,hck,hfk,LI hi hz],Kg w g zv⟩
   ·cases h
  ·rename_i q z es hm hxe
   obtain⟨kt,et,d,i,zv,hmt,hkd,hi,hz,rfl,hkey⟩:=M5 hm;rw[hxe]at hx;generalize ρ x=cx at hx;cases hx with
   | fm _ _ b me clock hG hheap hsz hkr hvr=>
    split at h
    ·rename_i hkok
     obtain⟨r,hf,rfl⟩:=Option.map_eq_some_iff.1 h;have hik:=hkey w g _ _ hkok hk;have hck:∀b,(Instr.checkKey b 10000 kt (ρ k)).run P w=.ok () w:=fun b=>run_checkKey (P:=P) (w:=w) hkd hik b 9999
     rcases Ng hk hik es me.toList 0 r (by simpa using hsz) (fun j u x hu hx=>⟨(hkr j u x hu (by simpa using hx)).ofNoid,(hvr j u x hu (by simpa using hx)).ofNoid⟩) hf with⟨rfl,h3⟩|⟨j,u,x',rfl,h3,h4,h5,h6,h7⟩
     ·have hfk:=run_findKey (P:=P) (w:=w) hkd h3
      cases ok with
      |true=>exact⟨_,by simp[Instr.lookup,run_underlying hmt,Go.MapKept.run_getObj_map hheap,hck,hfk,LI hi hz],MS (Kg w g zv) false⟩
      |false=>exact⟨_,by simp[Instr.lookup,run_underlying hmt,Go.MapKept.run_getObj_map hheap,hck,hfk,LI hi hz],Kg w g zv⟩
     ·have hfk:=run_findKey (P:=P) (w:=w) hkd h5
      cases ok with
      |true=>exact⟨_,by simp[Instr.lookup,run_underlying hmt,Go.MapKept.run_getObj_map hheap,hck,hfk],MS h7 true⟩
      |false=>exact⟨_,by simp[Instr.lookup,run_underlying hmt,Go.MapKept.run_getObj_map hheap,hck,hfk],h7⟩
    ·cases h
  ·cases h
def Ju(r:Option AV):Bool:=match r with
 |none=>true
 |some (.it _ _)=>true
 |_=>false
theorem Ziw{o:Oper}{e:Af}{S:Ae}{t:TypeId}{r:Option Operand}(ho:o.op=.makeMap t r)(hm:(r.isNone||(Ey P t).isSome)=true)(h:Ju (r.map (ev e))=true):AR P o e S (.mp S.length) (S++[.map []]):=
 Dj fun ρ w g hw hr=>by
  have hrun:(Instr.makeMap t (r.map ρ)).run P w=.ok (.map (some w.heap.size)) (w.alloc (.map #[] 0)):=by
   cases r with
   |none=>exact run_makeMap t w
   | some x=>
    obtain⟨⟨q,z⟩,hm⟩:=Option.isSome_iff_exists.1 (show(Ey P t).isSome=true by simpa using hm)
    obtain⟨kt,et,d,i,zv,hmt,hkd,hi,hz,rfl,hkey⟩:=M5 hm;have hx:=hr x (by rw[ho];simp[Op.operands])
    have:∃k n,ev e x=.it k n:=by
     simp only[Option.map_some]at h;generalize ev e x=u at h;cases u<;>first|exact⟨_,_,rfl⟩|cases h
    obtain⟨k,n,hxe⟩:=this;rw[hxe]at hx;simp only[Option.map_some];generalize ρ x=cx at hx;cases hx
    simp[Instr.makeMap,run_underlying hmt,asInt,asIntOf,newObj,Result.andThen]
    rfl
  have hn:=hw.nid;obtain⟨h1,h2⟩:=hw.alloc_push (.map #[] 0) false 0 0 0 (o:=.map []) (by
   refine⟨by simp[Gh.push],by simp[Gh.push],by simp[Gh.push],#[],0,?_,rfl,⟨by simp,rfl,by simp⟩,by simp,by simp⟩
   simp only[Gh.push,if_true];exact heap_alloc_new w _)
  refine⟨.map (some w.heap.size),_,_,?_,h1,?_,h2⟩
  ·unfold execOp
   simp only[ho,Sem.run_bind,hrun,Result.andThen_ok,Sem.run_pure]
  ·have :=Rel.mp (w:=w.alloc (.map #[] 0)) (g.push w.heap.size false 0 0 0) S.length (by simp only[Gh.push];omega) (by simp[Gh.push,hn])
   have e:(g.push w.heap.size false 0 0 0).pl S.length=w.heap.size:=by simp[Gh.push,hn]
   rw[e]at this;exact this
def G4(m:Option (Option IntKind×AV))(S:Ae)(x k v:AV):Option Ae:=
 match m,x with
 | some (q,_),.mp l=>match S[l]? with
  | some (.map es)=>if Gg q k=true then match DT k es 0 with
    |some (some (i,_))=>some (S.set l (.map (es.set i (k,v))))
    |some none=>some (S.set l (.map (es++[(k,v)])))
    |none=>none
   else none
  |_=>none
 |_,_=>none
theorem Ij{w:World}{b r:Nat}{ob:Obj}(h:b≠r):({ w with heap:=w.heap.setIfInBounds r ob }:World).heap[b]? = w.heap[b]? :=by
 simp[Ne.symm h]
theorem Le.setObj{w:World}{g:Gh}{r:Nat}(h0:g.G r=0)(ob:Obj):Le w g { w with heap:=w.heap.setIfInBounds r ob } g:=by
 refine⟨fun b' o v hb hv=>?_,fun _ _ _ h _=>h,Nat.le_refl _,fun _ _=>⟨rfl,.inl ⟨rfl,rfl,rfl⟩⟩,fun b' me c hg hm=>⟨hg,(Ij (fun e=>by subst e;omega)).trans hm⟩⟩
 have hne:b'≠r:=fun e=>by subst e;omega
 rw[World.cell?_of_block (w:=w) (Ij hne)]
 exact hv
theorem WF.put{w:World}{g:Gh}{S:Ae}{l:Nat}{o:SObj}{ob:Obj}(hw:WF w g S)(hl:l<S.length)(hown:g.own l (g.pl l))(hG:g.G (g.pl l)=0)
  (hobj:G7 { w with heap:=w.heap.setIfInBounds (g.pl l) ob } g l o):WF { w with heap:=w.heap.setIfInBounds (g.pl l) ob } g (S.set l o)∧Evo w g { w with heap:=w.heap.setIfInBounds (g.pl l) ob } g:=by
 have hn:=hw.nid;have hle:=Le.setObj (w:=w) hG ob;refine⟨hw.touch hl hle rfl (fun _ _ _=>⟨rfl,rfl,rfl,rfl,rfl⟩) (fun b hb=>.inl hb) (by simp) (fun _ _ _=>rfl) (fun b _ hno=>Ij fun e=>hno (by rw[e];exact hown)) hobj,
  ⟨hle,rfl,rfl,rfl,by simp,fun b _ hno=>Ij fun e=>hno l (by omega) (by rw[e];exact hown),fun _ _ hk hb _=>⟨hk,hb⟩,fun _ _ _=>rfl⟩⟩
theorem YV {o:Oper}{e:Af}{S S':Ae}{t:TypeId}{x k v:Operand}(ho:o.op=.mapUpdate t x k v∨o.op=.insert t x k v)(h:G4 (Ey P t) S (ev e x) (ev e k) (ev e v)=some S'):AR P o e S .junk S':=
 S7 fun ρ w g hw hr=>by
  have hmem:x∈o.op.operands.toList∧k∈o.op.operands.toList∧v∈o.op.operands.toList:=by rcases ho with ho|ho<;>rw[ho]<;>simp[Op.operands]
  have hx:=hr x hmem.1;have hk:=hr k hmem.2.1;have hv:=hr v hmem.2.2;suffices H:∃w' g',(Instr.mapUpdate t (ρ x) (ρ k) (ρ v)).run P w=.ok () w'∧WF w' g' S'∧Evo w g w' g' by
   obtain⟨w',g',h1,h2,h3⟩:=H;refine⟨w',g',?_,h2,h3⟩
   unfold execOp;rcases ho with ho|ho<;>simp only[ho,Sem.run_bind,h1,Result.andThen_ok,Sem.run_pure]<;>rfl
  unfold G4 at h;split at h
  ·rename_i q z l hm hxe
   obtain⟨kt,et,d,i,zv,hmt,hkd,hi,hz,rfl,hkey⟩:=M5 hm;rw[hxe]at hx;generalize ρ x=cx at hx;cases hx
   split at h
   ·rename_i es hS
    have hl:=(List.getElem?_eq_some_iff.1 hS).1
    obtain⟨hb,hown,hG,me,clock,hheap,hsz,hlt,hnd,hrel⟩:=hw.obj l _ hS;have hplt:g.pl l<w.heap.size:=(Array.getElem?_eq_some_iff.1 hheap).1
    split at h
    ·rename_i hkok
     have hik:=hkey w g _ _ hkok hk;have hck:(Instr.checkKey false 10000 kt (ρ k)).run P w=.ok () w:=run_checkKey (P:=P) (w:=w) hkd hik false 9999;split at h
     ·rename_i i' v' hf
      cases h
      rcases Ng hk hik es me.toList 0 _ (by simpa using hsz) (fun j u x hu hx=>hrel j u x hu (by simpa using hx)) hf with⟨h3,_⟩|⟨j,u,x',h2,h3,h4,h5,h6,h7⟩
      ·cases h3
      cases h2
      rw[Nat.zero_add]at h5 ⊢;have h4:me[j]? = some x':=by simpa using h4
      have hfk:=run_findKey (P:=P) (w:=w) hkd h5;have hst:=run_keyThatStays (P:=P) (w:=w) hik;have hjs:j<me.size:=(Array.getElem?_eq_some_iff.1 h4).1
      obtain⟨q1,q2⟩:=hw.put (o:=.map (es.set j (ev e k,ev e v))) (ob:=.map (me.modify j fun e=>{ e with key:=ρ k,val:=ρ v }) clock) hl hown hG (by
       have hle:=Le.setObj (w:=w) hG (.map (me.modify j fun e=>{ e with key:=ρ k,val:=ρ v }) clock)
       refine⟨hb,hown,hG,me.modify j fun e=>{ e with key:=ρ k,val:=ρ v },clock,by simp[hplt],by simp[hsz],?_,?_,?_⟩
       ·refine⟨fun y hy=>?_,by simpa using hlt.2.1,fun i y hy=>?_⟩
        rotate_left
        ·rw[Array.getElem?_modify]at hy
         split at hy
         ·obtain⟨y',h8,rfl⟩:=Option.map_eq_some_iff.1 hy
          exact hlt.2.2 i y' h8
         ·exact hlt.2.2 i y hy
        obtain⟨j',hj'⟩:=List.mem_iff_getElem?.1 hy;have hj':(me.modify j fun e=>{ e with key:=ρ k,val:=ρ v })[j']? = some y:=by rw[←Array.getElem?_toList];exact hj'
        rw[Array.getElem?_modify]at hj'
        split at hj'
        ·obtain⟨y',h8,rfl⟩:=Option.map_eq_some_iff.1 hj'
         exact hlt.1 y' (by rw[Array.mem_toList_iff];exact Array.mem_of_getElem? h8)
        ·exact hlt.1 y (by rw[Array.mem_toList_iff];exact Array.mem_of_getElem? hj')
       ·have:(me.modify j fun e=>{ e with key:=ρ k,val:=ρ v }).toList.map (·.born)=me.toList.map (·.born):=by
         refine List.ext_getElem? fun j'=>?_
         rw[List.getElem?_map,List.getElem?_map]
         have:(me.modify j fun e=>{ e with key:=ρ k,val:=ρ v }).toList[j']? = (me.modify j fun e=>{ e with key:=ρ k,val:=ρ v })[j']? :=Array.getElem?_toList
         rw[this,Array.getElem?_modify]
         split
         ·simp[Option.map_map,Function.comp_def]
         ·simp
        rw[this];exact hnd
       ·intro j' u' y hu hy
        rw[Array.getElem?_modify]at hy
        split at hy
        ·rename_i hjj
         subst hjj;rw[h4]at hy;cases hy
         rw[List.getElem?_set_self (by omega)]at hu
         cases hu
         exact⟨hk.le hle,hv.le hle⟩
        ·rename_i hjj
         rw[List.getElem?_set_ne hjj]at hu
         exact⟨(hrel j' u' y hu hy).1.le hle,(hrel j' u' y hu hy).2.le hle⟩)
      refine⟨_,g,?_,q1,q2⟩
      have e5:((me[j]?).map (·.key)).getD (ρ k)=ρ k:=by rw[h4];exact h6.symm
      simp only[Instr.mapUpdate,Sem.run_bind,run_underlying hmt,Result.andThen_ok,Go.MapKept.run_getObj_map hheap,hck,hfk,e5,hst,Go.MapKept.run_setObj_map _ hheap]
     ·rename_i hf
      cases h
      rcases Ng hk hik es me.toList 0 _ (by simpa using hsz) (fun j u x hu hx=>hrel j u x hu (by simpa using hx)) hf with⟨_,h5⟩|⟨j,u,x',h2,_⟩
      ·have hfk:=run_findKey (P:=P) (w:=w) hkd h5
       obtain⟨q1,q2⟩:=hw.put (o:=.map (es++[(ev e k,ev e v)])) (ob:=.map (me.push { key:=ρ k,val:=ρ v,born:=clock }) (clock+1)) hl hown hG (by
        have hle:=Le.setObj (w:=w) hG (.map (me.push { key:=ρ k,val:=ρ v,born:=clock }) (clock+1));refine⟨hb,hown,hG,me.push { key:=ρ k,val:=ρ v,born:=clock },clock+1,by simp[hplt],by simp[hsz],?_,?_,?_⟩
        ·refine⟨fun y hy=>?_,by simp[hlt.2.1],fun i y hy=>?_⟩
         ·simp only[Array.toList_push,List.mem_append,List.mem_singleton]at hy
          rcases hy with hy|rfl
          ·exact Nat.lt_succ_of_lt (hlt.1 y hy)
          ·exact Nat.lt_succ_self _
         ·rw[Array.getElem?_push]at hy
          split at hy
          ·rename_i hi
           cases hy
           rw[hi];exact hlt.2.1
          ·exact hlt.2.2 i y hy
        ·rw[Array.toList_push,List.map_append,List.nodup_append]
         refine⟨hnd,by simp,fun a ha b hb hab=>?_⟩
         obtain⟨y,hy,rfl⟩:=List.mem_map.1 ha;simp only[List.map_cons,List.map_nil,List.mem_singleton]at hb;have :=hlt.1 y hy;omega
        ·intro j u y hu hy
         rw[Array.getElem?_push]at hy
         split at hy
         ·rename_i hj
          cases hy
          rw[hj,hsz,List.getElem?_append_right (Nat.le_refl _),Nat.sub_self]at hu
          cases hu
          exact⟨hk.le hle,hv.le hle⟩
         ·have hj:j<es.length:=by have :=(Array.getElem?_eq_some_iff.1 hy).1;omega
          rw[List.getElem?_append_left hj]at hu
          exact⟨(hrel j u y hu hy).1.le hle,(hrel j u y hu hy).2.le hle⟩)
       refine⟨_,g,?_,q1,q2⟩
       simp only[Instr.mapUpdate,Sem.run_bind,run_underlying hmt,Result.andThen_ok,Go.MapKept.run_getObj_map hheap,hck,hfk,Go.MapKept.run_setObj_map _ hheap]
      ·cases h2
     ·cases h
    ·cases h
   ·cases h
  ·cases h
def Iy(kd:Kd)(S:Ae)(x:AV):Option (AV×Ae):=
 match kd,x with
 |.str,.st l=>some (.ptr S.length 0,S++[.siter l 0])
 |_,_=>none
theorem Zis{o:Oper}{e:Af}{S S':Ae}{v:AV}{t:TypeId}{x:Operand}(ho:o.op=.range t x)(h:Iy (Ba P t) S (ev e x)=some (v,S')):AR P o e S v S':=
 Dj fun ρ w g hw hr=>by
  have hx:=hr x (by rw[ho];simp[Op.operands])
  unfold Iy at h;split at h
  ·rename_i l hkd hxe
   cases h
   rw[hxe]at hx;generalize hcx:ρ x=cx at hx;cases hx
   have hn:=hw.nid;obtain⟨h1,h2⟩:=hw.alloc_push (.stringIter ⟨l.toArray⟩ 0) false 0 0 0 (o:=.siter l 0) (by
    refine⟨by simp[Gh.push],by simp[Gh.push],by simp[Gh.push],?_⟩
    simp only[Gh.push,if_true];exact heap_alloc_new w _)
   refine⟨.pointer (some ⟨w.heap.size,0,none⟩),_,_,?_,h1,?_,h2⟩
   ·unfold execOp
    simp only[ho,hcx,Instr.range,Sem.run_bind,run_underlying (Gi hkd),Result.andThen_ok,Sem.run_pure,newObj,Sem.run];rfl
   ·have :=Rel.ptr (w:=w.alloc (.stringIter ⟨l.toArray⟩ 0)) (g.push w.heap.size false 0 0 0) S.length 0 (by simp only[Gh.push];omega) (by simp[Gh.push,hn])
    have e:(g.push w.heap.size false 0 0 0).pl S.length=w.heap.size:=by simp[Gh.push,hn]
    rw[e]at this;exact this
  ·cases h
def FI(l:List UInt8)(pos:Nat):Nat×Nat:=Utf8.decode ⟨l.toArray⟩ pos
def IC(S:Ae)(x:AV)(isS:Bool):Option (AV×Ae):=
 match x,isS with
 |.ptr l 0,true=>match S[l]? with
  |some (.siter s pos)=>if pos<s.length then some (.tup [.bo true,.it .i64 pos,.it .i32 ((FI s pos).1:Int)],S.set l (.siter s (pos+(FI s pos).2)))else some (.tup [.bo false],S)
  |_=>none
 |_,_=>none
theorem Ziu{o:Oper}{e:Af}{S S':Ae}{v:AV}{x:Operand}{isS:Bool}(ho:o.op=.next x isS)(h:IC S (ev e x) isS=some (v,S')):AR P o e S v S':=
 Dj fun ρ w g hw hr=>by
  have hx:=hr x (by rw[ho];simp[Op.operands])
  unfold IC at h;split at h
  ·rename_i l hxe
   rw[hxe]at hx;generalize hcx:ρ x=cx at hx;cases hx
   split at h
   ·rename_i s pos hS
    have hl:=(List.getElem?_eq_some_iff.1 hS).1
    obtain⟨hb,hown,hG,hheap⟩:=hw.obj l _ hS;have hplt:g.pl l<w.heap.size:=(Array.getElem?_eq_some_iff.1 hheap).1
    have hget:(getObj (g.pl l)).run P w=.ok (.stringIter ⟨s.toArray⟩ pos) w:=by simp[getObj,Sem.run,hheap]
    have hsz:(⟨s.toArray⟩:ByteArray).size=s.length:=by simp[ByteArray.size]
    split at h
    ·rename_i hlt
     cases h
     obtain⟨q1,q2⟩:=hw.put (o:=.siter s (pos+(FI s pos).2)) (ob:=.stringIter ⟨s.toArray⟩ (pos+(FI s pos).2)) hl hown hG (by
      refine⟨hb,hown,hG,by simp[hplt]⟩)
     refine⟨.tuple #[.bool true,.int .i64 pos,.int .i32 ((FI s pos).1:Int)],_,g,?_,q1,?_,q2⟩
     ·have E3:∀ob,(setObj (g.pl l) ob).run P w=.ok () { w with heap:=w.heap.setIfInBounds (g.pl l) ob }:=fun ob=>by simp[setObj,Sem.run,hheap]
      have hrun:∀ty,(Instr.next (.pointer (some ⟨g.pl l,0,none⟩)) true ty).run P w=.ok (.tuple #[.bool true,.int .i64 pos,.int .i32 ((FI s pos).1:Int)]) { w with heap:=w.heap.setIfInBounds (g.pl l) (.stringIter ⟨s.toArray⟩ (pos+(FI s pos).2)) }:=fun ty=>by
       simp only[Instr.next,Sem.run_bind,hget,Result.andThen_ok,hsz,hlt,if_true]
       simp only[FI,E3,Sem.run_bind,Result.andThen_ok,Sem.run_pure,goInt]
      unfold execOp;simp only[ho,hcx,Sem.run_bind,hrun,Result.andThen_ok,Sem.run_pure]
     ·refine .tup _ _ _ rfl fun j u v hu hv=>?_
      match j with
      |0=>cases hu;cases hv;exact .bo _ _
      |1=>cases hu;cases hv;exact .it _ _ _
      |2=>cases hu;cases hv;exact .it _ _ _
      |j+3=>simp at hu
    ·rename_i hlt
     cases h
     refine⟨.tuple #[.bool false],w,g,?_,hw,?_,Evo.refl w g⟩
     ·have hrun:∀ty,(Instr.next (.pointer (some ⟨g.pl l,0,none⟩)) true ty).run P w=.ok (.tuple #[.bool false]) w:=fun ty=>by
       simp only[Instr.next,Sem.run_bind,hget,Result.andThen_ok,hsz,hlt,if_false,Sem.run_pure]
      unfold execOp;simp only[ho,hcx,Sem.run_bind,hrun,Result.andThen_ok,Sem.run_pure]
     ·refine .tup _ _ _ rfl fun j u v hu hv=>?_
      match j with
      |0=>cases hu;cases hv;exact .bo _ _
      |j+1=>simp at hu
   ·cases h
  ·cases h
end
end Pe
namespace Pe
open Go Go.RowKit
variable [Tab]
inductive Cls where
 |free|read|fresh|write
def Bh(P:Program)(pf rf:List FuncId):Op→Cls
 |.load .. =>.read
 |.lookup .. =>.read
 |.alloc _=>.fresh
 |.box .. =>.fresh
 |.makeMap .. =>.fresh
 |.convert _ d _=>match Ba P d with
  |.bytes=>.write
  |_=>.free
 |.call c=>match c.callee with
  |.value (.func f)=>if pf.contains f then .free else if rf.contains f then .read else .write
  |.value (.tmp t)=>if pf.contains (t+1000000)then .free else if rf.contains (t+1000000)then .read else .write
  |.builtin .len=>.free
  |.builtin .min=>.free
  |.builtin .max=>.free
  |_=>.write
 |.move _=>.free
 |.assign _=>.free
 |.pick .. =>.free
 |.buildSlice .. =>.free
 |.build .. =>.free
 |.nilCheck _=>.free
 |.binOp .. =>.free
 |.unOp .. =>.free
 |.makeFunc .. =>.free
 |.slice .. =>.free
 |.fieldAddr .. =>.free
 |.field .. =>.free
 |.indexAddr .. =>.free
 |.index .. =>.free
 |.extract .. =>.free
 |_=>.write
def Hz(cls:Op→Cls)(ops:Array Oper)(x y:Oper):Bool:=
 x.apart ops y&&(match cls x.op,cls y.op with
  |.free,_=>true
  |_,.free=>true
  |.read,.read=>true
  |.read,.fresh=>true
  |_,_=>false)
def Nq(cls:Op→Cls)(md:Region.Mode)(ops:Array Oper)(listed:Array Bool)(k:Nat):Bool:=
 match ops[k]? with
 |none=>false
 |some ok=>(List.range ops.size).all fun j=>
  match ops[j]? with
  |none=>true
  |some oj=>j==k||listed.getD j true||oj.after.any (fun e=>Region.binds md e&&e.on==k)||Hz cls ops ok oj
def Nc(cls:Op→Cls)(md:Region.Mode)(ops:Array Oper):Nat→Nat→Array Bool→Bool
 |0,_,listed=>(Region.ready md ops listed).isEmpty
 |fuel+1,k,listed=>(Region.ready md ops listed).contains k&&Nq cls md ops listed k&&Nc cls md ops fuel (k+1) (listed.setIfInBounds k true)
def R5(cls:Op→Cls)(ops:Array Oper):Bool:=Nc cls .any ops ops.size 0 (Array.replicate ops.size false)
theorem SB{cls:Op→Cls}{md:Region.Mode}{ops:Array Oper}{listed:Array Bool}{k:Nat}{ok:Oper}(hk:ops[k]? = some ok)(h:Nq cls md ops listed k=true):
  ∀(j:Nat) oj,ops[j]? = some oj→j≠k→listed.getD j true=false→(∀e∈oj.after,Region.binds md e=true→e.on≠k)→Hz cls ops ok oj=true:=by
 intro j oj hj hne hun hno;unfold Nq at h;rw[hk]at h;simp only at h
 have hlt:j<ops.size:=(Array.getElem?_eq_some_iff.1 hj).1
 have h1:=(List.all_eq_true.1 h) j (List.mem_range.2 hlt);rw[hj]at h1;simp only[Bool.or_eq_true,beq_iff_eq]at h1;rcases h1 with((h1|h1)|h1)|h1
 ·exact absurd h1 hne
 ·rw[hun]at h1;cases h1
 ·rw[Array.any_eq_true']at h1
  obtain⟨e,he,h2⟩:=h1;simp only[Bool.and_eq_true,beq_iff_eq]at h2;exact absurd h2.2 (hno e he h2.1)
 ·exact h1
def CE(P:Program)(c:Cls)(o:Oper)(e:Af)(S:Ae)(v:AV)(S':Ae):Prop:=
 match c with
 |.free=>S'=S ∧ ∀T,AR P o e T v T
 |.read=>S'=S ∧ ∀R,AR P o e (S++R) v (S++R)
 |.fresh=>(∃R,S'=S++R)∧AR P o e S v S'
 |.write=>AR P o e S v S'
theorem CE.does{P:Program}{c:Cls}{o:Oper}{e:Af}{S S':Ae}{v:AV}(h:CE P c o e S v S'):AR P o e S v S':=by
 cases c
 ·obtain⟨rfl,h⟩:=h;exact h _
 ·obtain⟨rfl,h⟩:=h;have :=h [];simpa using this
 ·exact h.2
 ·exact h
def NT(ops:Array Oper)(e:Af)(j:Nat):Option (Option Bool):=
 match(ops[j]?).bind (·.dst)with
 |none=>some none
 |some d=>match e d with
  |.bo b=>some (some b)
  |.tup []=>some none
  |_=>none
def Cp(ops:Array Oper)(o:Oper)(e:Af):Option Bool:=
 match o.guard with
 |none=>some true
 |some (j,want)=>(NT ops e j).map (· == some want)
theorem Jr{ops:Array Oper}{o:Oper}{e:Af}{a:Act}{w:World}{g:Gh}(h:CZ w g e a){b:Bool}(hb:Cp ops o e=some b):Region.wanted o (yielded ops a.tmps)=b:=by
 unfold Cp at hb;unfold Region.wanted;split at hb
 ·rename_i hg
  cases hb
  rw[hg]
 ·rename_i j want hg
  obtain⟨y,hy,rfl⟩:=Option.map_eq_some_iff.1 hb;rw[hg];simp only
  have:yielded ops a.tmps j=y:=by
   unfold NT at hy;unfold yielded;split at hy
   ·rename_i hd
    cases hy
    rw[hd];rfl
   ·rename_i d hd
    rw[hd];have hr:=h d;split at hy
    ·rename_i b' hb'
     cases hy
     rw[hb']at hr;simp only[Option.bind_some];cases ht:a.tmps[d]? with
     |none=>
      rw[Array.getD_eq_getD_getElem?,ht]at hr;cases hr
     |some z=>
      rw[Array.getD_eq_getD_getElem?,ht]at hr;simp only[Option.getD_some]at hr;cases hr
      rfl
    ·rename_i hb'
     cases hy
     rw[hb']at hr;simp only[Option.bind_some];cases ht:a.tmps[d]? with
     |none=>rfl
     |some z=>
      rw[Array.getD_eq_getD_getElem?,ht]at hr;simp only[Option.getD_some]at hr;cases hr
      rfl
    ·cases hy
  rw[this]
structure EvD(w0:World)(g0:Gh)(w:World)(g:Gh)(D:List Deferred):Prop extends Evo w0 g0 w g where
 defs:∀d∈D,∃b,d.target=.collected b∧w0.heap.size≤b∧b<w.heap.size∧w.heap[b]? = some (.deferred (some [])) ∧ ∀l,l<g.nid → ¬g.own l b
 nodup:(D.map (·.target)).Nodup
theorem EvD.trans{w0 w w':World}{g0 g g':Gh}{D:List Deferred}(h:EvD w0 g0 w g D)(h':Evo w g w' g'):EvD w0 g0 w' g' D:=
 ⟨h.toEvo.trans h',fun d hd=>by
  obtain⟨b,h1,h2,h3,h4,h5⟩:=h.defs d hd;exact⟨b,h1,h2,Nat.lt_of_lt_of_le h3 h'.size,by rw[h'.old b h3 h5];exact h4,fun l hl ho=>h5 l (h'.own l b hl ho h3).1 (h'.own l b hl ho h3).2⟩,h.nodup⟩
theorem EvD.none{w0 w:World}{g0 g:Gh}(h:Evo w0 g0 w g):EvD w0 g0 w g []:=⟨h,fun d hd=>(by cases hd),List.nodup_nil⟩
theorem VV(a:Act)(d:Option Nat)(v:Value):(a.put d v).defers=a.defers:=by cases d<;>rfl
def AP(N:Nat)(w0:World)(g0:Gh)(e:Af)(S:Ae)(a:Act)(w:World):Prop:=
 a.tmps.size=N∧True ∧ ∃g,WF w g S∧CZ w g e a∧EvD w0 g0 w g a.defers
section
variable {P:Program} {N:Nat} {w0:World} {g0:Gh}
theorem CZ.put{w:World}{g:Gh}{e:Af}{a:Act}(h:CZ w g e a){d:Option Nat}(hd:∀x,d=some x→x<a.tmps.size){v:AV}{cv:Value}(hv:Rel w g v cv):CZ w g (Pe.put e d v) (a.put d cv):=by
 cases d with
 |none=>exact h
 | some x=>
  intro t;show Rel w g (Aw e x v t) _
  simp only[Act.put];by_cases ht:t=x
  ·subst ht
   rw[JI];have hx:=hd t rfl;rw[Array.getD_eq_getD_getElem?,Array.getElem?_setIfInBounds_self_of_lt hx]
   exact hv
  ·rw[HV e ht,Array.getD_eq_getD_getElem?,Array.getElem?_setIfInBounds_ne (fun e=>ht e.symm),←Array.getD_eq_getD_getElem?]
   exact h t
theorem AP.does{o:Oper}{e:Af}{S S':Ae}{v:AV}{a:Act}{w:World}(hc:AP N w0 g0 e S a w)(hd:∀d,o.dst=some d→d<N)(h:AR P o e S v S'){K:Act→World→Prop}{Q:Exit→Act→World→Prop}
  (hK:∀a' w',AP N w0 g0 (Pe.put e o.dst v) S' a' w'→K a' w'):wq P o a w K Q:=by
 obtain⟨h1,h2,g,h3,h4,h5⟩:=hc;refine h a w g h3 (fun x _=>Ka h4 x) K Q fun cv w' g' hw hr he=>hK _ _ ⟨?_,trivial,g',hw,?_,by rw[VV];exact h5.trans he⟩
 ·cases ho:o.dst<;>simp[Act.put,h1]
 ·exact CZ.put (fun t=>(h4 t).le he.toLe) (fun x hx=>by rw[h1];exact hd x hx) hr
theorem AP.skip{o:Oper}{e:Af}{S:Ae}{a:Act}{w:World}(hc:AP N w0 g0 e S a w)(hd:∀d,o.dst=some d→d<N):AP N w0 g0 (Pe.put e o.dst (.tup [])) S (a.put o.dst undef) w:=by
 obtain⟨h1,h2,g,h3,h4,h5⟩:=hc;refine⟨?_,trivial,g,h3,h4.put (fun x hx=>by rw[h1];exact hd x hx) (.tup g [] #[] rfl (by simp)),by rw[VV];exact h5⟩
 cases ho:o.dst<;>simp[Act.put,h1]
def xOp(P:Program)(cls:Op→Cls)(ops:Array Oper)(i:Nat)(K:Af→Ae→Prop)(e:Af)(S:Ae):Prop:=
 match ops[i]? with
 |none=>K e S
 |some o=>match Cp ops o e with
  |some true=>∃v S',CE P (cls o.op) o e S v S'∧K (Pe.put e o.dst v) S'
  |some false=>K (Pe.put e o.dst (.tup [])) S
  |none=>False
theorem T9{cls:Op→Cls}{ops:Array Oper}{i:Nat}{K K':Af→Ae→Prop}{e:Af}{S:Ae}(h:∀e S,K e S→K' e S)(hh:xOp P cls ops i K e S):xOp P cls ops i K' e S:=by
 unfold xOp at *;split
 ·rename_i ho;simp only[ho]at hh;exact h _ _ hh
 ·rename_i o ho
  simp only[ho]at hh;split
  ·rename_i hw;simp only[hw]at hh;obtain⟨v,S',h1,h2⟩:=hh;exact⟨v,S',h1,h _ _ h2⟩
  ·rename_i hw;simp only[hw]at hh;exact h _ _ hh
  ·rename_i hw;simp only[hw]at hh
def D8(P:Program)(cls:Op→Cls)(md:Region.Mode)(ops:Array Oper)(Q:Af→Ae→Prop):Nat→Array Bool→Af→Ae→Prop
 |0,listed,e,S=>Region.ready md ops listed=[]∧Q e S
 |fuel+1,listed,e,S=>
  (Region.ready md ops listed=[]→Q e S) ∧
  ∀i∈Region.ready md ops listed,xOp P cls ops i (D8 P cls md ops Q fuel (listed.setIfInBounds i true)) e S
def D3(N:Nat)(ops:Array Oper):Bool:=ops.all fun o=>match o.dst with
 |some d=>decide (d<N)
 |none=>true
theorem PG{ops:Array Oper}(h:D3 N ops=true){i:Nat}{o:Oper}(hi:ops[i]? = some o):∀d,o.dst=some d→d<N:=by
 intro d hd;have :=(Array.all_eq_true_iff_forall_mem.1 h) o (Array.mem_of_getElem? hi);rw[hd]at this;simpa using this
theorem IL(ro:Option Nat){cls:Op→Cls}{md:Region.Mode}{ops:Array Oper}(hds:D3 N ops=true){Q:Af→Ae→Prop}{Q':Exit→Act→World→Prop}(hQ:∀e S a w,AP N w0 g0 e S a w→Q e S→Q' .normal a w):
  ∀(fuel:Nat) (listed:Array Bool) (e:Af) (S:Ae) (a:Act) (w:World),AP N w0 g0 e S a w→D8 P cls md ops Q fuel listed e S→wpAnyIn (wR ro) 0 P md ops Q' fuel listed a w
 |0,_,e,S,a,w,hc,h=>⟨h.1,hQ e S a w hc h.2⟩
 | fuel+1,listed,e,S,a,w,hc,h=>⟨fun h0=>hQ e S a w hc (h.1 h0),fun i hi=>by
  have hx:=h.2 i hi;unfold xOp at hx;unfold wpOpIn;split
  ·rename_i ho;simp only[ho]at hx;exact IL ro hds hQ fuel _ e S a w hc hx
  ·rename_i o ho
   simp only[ho]at hx;have hd:=PG hds ho;have her:∃g,CZ w g e a:=by obtain⟨_,_,g,_,h4,_⟩:=hc;exact⟨g,h4⟩
   obtain⟨g,her⟩:=her;split at hx
   ·rename_i hw
    rw[Jr her hw];obtain⟨v,S',h1,h2⟩:=hx;simp only[if_true];exact hc.does hd h1.does (fun a' w' hc'=>IL ro hds hQ fuel _ _ _ a' w' hc' h2) ro
   ·rename_i hw
    rw[Jr her hw];simp only[Bool.false_eq_true,if_false];exact⟨fun _ _=>trivial,IL ro hds hQ fuel _ _ _ _ w (hc.skip hd) hx⟩
   ·exact hx.elim⟩
def Kz(P:Program)(cls:Op→Cls)(ops:Array Oper)(o:Oper)(e:Af)(S:Ae)(v:AV)(S':Ae):Prop:=
 (Cp ops o e=some true∧CE P (cls o.op) o e S v S')∨(Cp ops o e=some false∧v=.tup []∧S'=S)
theorem Kz.xOp{cls:Op→Cls}{ops:Array Oper}{i:Nat}{o:Oper}{e:Af}{S S':Ae}{v:AV}(hi:ops[i]? = some o)(hy:Kz P cls ops o e S v S'){K:Af→Ae→Prop}(h:K (Pe.put e o.dst v) S'):xOp P cls ops i K e S:=by
 unfold Pe.xOp;simp only[hi];rcases hy with⟨hw,hx⟩|⟨hw,rfl,rfl⟩
 ·simp only[hw];exact⟨v,S',hx,h⟩
 ·simp only[hw];exact h
theorem Qg{cls:Op→Cls}{ops:Array Oper}{i:Nat}{o:Oper}{e:Af}{S:Ae}{K:Af→Ae→Prop}(hi:ops[i]? = some o)(h:xOp P cls ops i K e S):∃v S',Kz P cls ops o e S v S'∧K (Pe.put e o.dst v) S':=by
 unfold xOp at h;simp only[hi]at h;split at h
 ·rename_i hw;obtain⟨v,S',h1,h2⟩:=h;exact⟨v,S',.inl ⟨hw,h1⟩,h2⟩
 ·rename_i hw;exact⟨.tup [],S,.inr ⟨hw,rfl,rfl⟩,h⟩
 ·exact h.elim
theorem Zh8{e:Af}{dst:Option Nat}{v:AV}{x:Operand}(h:∀d,dst=some d→x≠.tmp d):ev (Pe.put e dst v) x=ev e x:=by
 cases dst with
 |none=>rfl
 | some d=>
  cases x with
  |tmp t=>
   show Aw e d v t=e t
   exact HV e (fun ht=>h d rfl (by rw[ht])) v
  |_=>rfl
theorem GP(e:Af){x y:Option Nat}(v u:AV)(h:∀d,x=some d→y≠some d):Pe.put (Pe.put e x v) y u=Pe.put (Pe.put e y u) x v:=by
 cases x with
 |none=>rfl
 | some d=>
  cases y with
  |none=>rfl
  | some d'=>
   have hne:d≠d':=fun he=>h d rfl (by rw[he])
   funext t
   show Aw (Aw e d v) d' u t=Aw (Aw e d' u) d v t
   unfold Aw;by_cases h1:t=d
   ·subst h1
    rw[if_neg hne];simp
   ·by_cases h2:t=d'
    ·subst h2;simp[h1]
    ·simp[h1,h2]
theorem AR.put{o:Oper}{e:Af}{S S':Ae}{v:AV}{ops:Array Oper}{dst:Option Nat}{u:AV}(h:∀d,dst=some d→d∉o.looksAt ops):AR P o (Pe.put e dst u) S v S'↔AR P o e S v S':=by
 have key:∀x,x∈o.op.operands.toList→ev (Pe.put e dst u) x=ev e x:=fun x hx=>Zh8 fun d hd hxd=>h d hd (by
  subst hxd;exact List.mem_append_left _ (List.mem_filterMap.2 ⟨.tmp d,hx,rfl⟩))
 constructor
 ·intro hh a w g hw hr K Q hK
  exact hh a w g hw (fun x hx=>by rw[key x hx];exact hr x hx) K Q hK
 ·intro hh a w g hw hr K Q hK
  exact hh a w g hw (fun x hx=>by rw[←key x hx];exact hr x hx) K Q hK
theorem CE.put{c:Cls}{o:Oper}{e:Af}{S S':Ae}{v:AV}{ops:Array Oper}{dst:Option Nat}{u:AV}(h:∀d,dst=some d→d∉o.looksAt ops):CE P c o (Pe.put e dst u) S v S'↔CE P c o e S v S':=by
 cases c
 iterate 2
  ·exact and_congr Iff.rfl (forall_congr' fun T=>AR.put h)
 ·exact and_congr Iff.rfl (AR.put h)
 ·exact AR.put h
theorem P4{o:Oper}{e:Af}{ops:Array Oper}{dst:Option Nat}{u:AV}(h:∀d,dst=some d→d∉o.looksAt ops):Cp ops o (Pe.put e dst u)=Cp ops o e:=by
 unfold Cp;split
 ·rfl
 ·rename_i j want hg
  congr 1
  unfold NT;split
  ·rfl
  ·rename_i d hd
   have:Pe.put e dst u d=e d:=by
    cases dst with
    |none=>rfl
    |some d'=>
     refine HV e (fun he=>h d' rfl ?_) u
     subst he;refine List.mem_append_right _ ?_
     rw[hg];simp[hd]
   rw[this]
theorem T8{cls:Op→Cls}{ops:Array Oper}{j:Nat}{oi oj:Oper}{v:AV}{e:Af}{S Si:Ae}(hj:ops[j]? = some oj)(hap:Hz cls ops oi oj=true){K:Af→Ae→Prop}
  (hy:Kz P cls ops oi e S v Si)(h:xOp P cls ops j K (Pe.put e oi.dst v) Si):
  xOp P cls ops j (fun e' S'=>∃Si',Kz P cls ops oi e' S' v Si'∧K (Pe.put e' oi.dst v) Si') e S:=by
 simp only[Hz,Bool.and_eq_true]at hap;obtain⟨h1,h2,h3⟩:=Oper.apart_spec hap.1;have hcls:=hap.2;have keep:∀u,Cp ops oi (Pe.put e oj.dst u)=Cp ops oi e:=fun u=>P4 h3
 unfold xOp at *;simp only[hj]at *;rw[P4 h1]at h;split
 ·rename_i hw
  simp only[hw]at h;obtain⟨u,Sj,hu,hn⟩:=h;rw[CE.put h1]at hu;rcases hy with⟨hwi,hx⟩|⟨hwi,rfl,rfl⟩
  ·cases hci:cls oi.op with
   |free=>
    rw[hci]at hx;obtain⟨rfl,hx⟩:=hx;refine⟨u,Sj,hu,Sj,.inl ⟨by rw[keep];exact hwi,?_⟩,by rw[←GP e v u h2];exact hn⟩
    rw[hci,CE.put h3];exact⟨rfl,hx⟩
   | read=>
    rw[hci]at hx;obtain⟨rfl,hx⟩:=hx;cases hcj:cls oj.op with
    |free=>
     rw[hcj]at hu;obtain⟨rfl,hu⟩:=hu;refine⟨u,_,⟨rfl,hu⟩,_,.inl ⟨by rw[keep];exact hwi,?_⟩,by rw[←GP e v u h2];exact hn⟩
     rw[hci,CE.put h3];exact⟨rfl,hx⟩
    |read=>
     rw[hcj]at hu;obtain⟨rfl,hu⟩:=hu;refine⟨u,_,⟨rfl,hu⟩,_,.inl ⟨by rw[keep];exact hwi,?_⟩,by rw[←GP e v u h2];exact hn⟩
     rw[hci,CE.put h3];exact⟨rfl,hx⟩
    |fresh=>
     rw[hcj]at hu;obtain⟨⟨R,rfl⟩,hu⟩:=hu;refine⟨u,_,⟨⟨R,rfl⟩,hu⟩,_,.inl ⟨by rw[keep];exact hwi,?_⟩,by rw[←GP e v u h2];exact hn⟩
     rw[hci,CE.put h3];exact⟨rfl,fun R'=>by rw[List.append_assoc];exact hx (R++R')⟩
    |write=>rw[hci,hcj]at hcls;cases hcls
   | fresh=>
    rw[hci]at hx;cases hcj:cls oj.op with
    |free=>
     rw[hcj]at hu;obtain⟨rfl,hu⟩:=hu;refine⟨u,_,⟨rfl,hu⟩,_,.inl ⟨by rw[keep];exact hwi,?_⟩,by rw[←GP e v u h2];exact hn⟩
     rw[hci,CE.put h3];exact hx
    |read=>rw[hci,hcj]at hcls;cases hcls
    |fresh=>rw[hci,hcj]at hcls;cases hcls
    |write=>rw[hci,hcj]at hcls;cases hcls
   | write=>
    rw[hci]at hx;cases hcj:cls oj.op with
    |free=>
     rw[hcj]at hu;obtain⟨rfl,hu⟩:=hu;refine⟨u,_,⟨rfl,hu⟩,_,.inl ⟨by rw[keep];exact hwi,?_⟩,by rw[←GP e v u h2];exact hn⟩
     rw[hci,CE.put h3];exact hx
    |read=>rw[hci,hcj]at hcls;cases hcls
    |fresh=>rw[hci,hcj]at hcls;cases hcls
    |write=>rw[hci,hcj]at hcls;cases hcls
  ·exact⟨u,Sj,hu,Sj,.inr ⟨by rw[keep];exact hwi,rfl,rfl⟩,by rw[←GP e _ u h2];exact hn⟩
 ·rename_i hw
  simp only[hw]at h;refine⟨Si,?_,by rw[←GP e v _ h2];exact h⟩
  rcases hy with⟨hwi,hx⟩|⟨hwi,rfl,rfl⟩
  ·exact .inl ⟨by rw[keep];exact hwi,(CE.put h3).2 hx⟩
  ·exact .inr ⟨by rw[keep];exact hwi,rfl,rfl⟩
 ·rename_i hw
  simp only[hw]at h
theorem Qi{cls:Op→Cls}{md:Region.Mode}{ops:Array Oper}{Q:Af→Ae→Prop}{i:Nat}{oi:Oper}{v:AV}(hi:ops[i]? = some oi):
  ∀(fuel:Nat) (listed:Array Bool) (e:Af) (S Si:Ae),
   (∀(j:Nat) oj,ops[j]? = some oj→j≠i→listed.getD j true=false→(∀e∈oj.after,Region.binds md e=true→e.on≠i)→Hz cls ops oi oj=true) →
   i∈Region.ready md ops listed→Kz P cls ops oi e S v Si →
   D8 P cls md ops Q fuel (listed.setIfInBounds i true) (Pe.put e oi.dst v) Si→D8 P cls md ops Q (fuel+1) listed e S:=by
 intro fuel;induction fuel with
 | zero=>
  intro listed e S Si _ hr hy H;refine⟨fun h=>(by rw[h]at hr;cases hr),fun j hj=>?_⟩
  by_cases hji:j=i
  ·subst hji;exact hy.xOp hi H
  ·have :=ready_mono hj hji
   rw[H.1]at this;cases this
 | succ fuel ih=>
  intro listed e S Si hfree hr hy H;refine⟨fun h=>(by rw[h]at hr;cases hr),fun j hj=>?_⟩
  by_cases hji:j=i
  ·subst hji;exact hy.xOp hi H
  ·have h1:=H.2 j (ready_mono hj hji)
   obtain⟨hjun,oj,hoj,hall⟩:=mem_ready.1 hj;have hnot:∀e∈oj.after,Region.binds md e=true→e.on≠i:=fun e he hb heq=>by
    have h1:=hall e he hb;have h0:=(mem_ready.1 hr).1;rw[heq]at h1;rcases Nat.lt_or_ge i listed.size with h'|h'
    ·simp[h']at h0 h1;rw[h0]at h1;cases h1
    ·simp[Array.getElem?_eq_none h']at h1
   have h2:=T8 hoj (hfree j oj hoj hji hjun hnot) hy h1;have hfree':∀(k:Nat) ok,ops[k]? = some ok→k≠i→(listed.setIfInBounds j true).getD k true=false →
     (∀e∈ok.after,Region.binds md e=true→e.on≠i)→Hz cls ops oi ok=true:=fun k ok hk hki hun hno=>by
    refine hfree k ok hk hki ?_ hno
    by_cases hjk:j=k
    ·subst hjk;exact hjun
    ·rw[getD_set_ne true hjk]at hun;exact hun
   refine T9 (fun e' S' h3=>?_) h2
   obtain⟨Si',h3,h4⟩:=h3;refine ih (listed.setIfInBounds j true) e' S' Si' hfree' (ready_mono hr (Ne.symm hji)) h3 ?_
   rw[Array.setIfInBounds_comm _ _ hji];exact h4
def Dn(P:Program)(cls:Op→Cls)(ops:Array Oper)(Q:Af→Ae→Prop):List Oper→Af→Ae→Prop
 |[],e,S=>Q e S
 |o::rest,e,S=>match Cp ops o e with
  |some true=>∃v S',CE P (cls o.op) o e S v S'∧Dn P cls ops Q rest (Pe.put e o.dst v) S'
  |some false=>Dn P cls ops Q rest (Pe.put e o.dst (.tup [])) S
  |none=>False
theorem Un{cls:Op→Cls}{md:Region.Mode}{ops:Array Oper}{Q:Af→Ae→Prop}:∀(l:List Oper) (k:Nat) (listed:Array Bool) (e:Af) (S:Ae),(∀j,l[j]? = ops[k+j]?) →
  Nc cls md ops l.length k listed=true→Dn P cls ops Q l e S→D8 P cls md ops Q l.length listed e S
 |[],_,_,_,_,_,hB,h=>⟨by simpa[Nc] using hB,h⟩
 | o::l,k,listed,e,S,hl,hB,h=>by
  have h0:ops[k]? = some o:=by simpa using (hl 0).symm
  simp only[List.length_cons,Nc,Bool.and_eq_true]at hB;obtain⟨⟨hr,hf⟩,hB'⟩:=hB;have hst:xOp P cls ops k (Dn P cls ops Q l) e S:=by unfold xOp;simp only[h0];exact h
  obtain⟨v,S',hy,hK⟩:=Qg h0 hst;exact Qi h0 l.length listed e S S' (SB h0 hf) (by simpa using hr) hy
   (Un l (k+1) _ _ _ (fun j=>by have :=hl (j+1);simpa[Nat.add_assoc,Nat.add_comm 1 j] using this) hB' hK)
theorem AP.draw{e:Af}{S:Ae}{a:Act}{w:World}(h:AP N w0 g0 e S a w)(n:Nat):AP N w0 g0 e S a { w with drawn:=n }:=by
 obtain⟨h1,h2,g,h3,h4,h5⟩:=h;exact⟨h1,h2,g,h3.draw n,fun t=>(h4 t).le (Evo.draw w g n).toLe,h5.trans (Evo.draw w g n)⟩
theorem ZeZ{cls:Op→Cls}{ops:Array Oper}{id:Nat}{Q:Af→Ae→Prop}{Q':Exit→Act→World→Prop}{e:Af}{S:Ae}{a:Act}{w:World}(hm:P.follows .mixedOrders=true)(hB:R5 cls ops=true)(hds:D3 N ops=true)
  (hQ:∀e S a w,AP N w0 g0 e S a w→Q e S→Q' .normal a w)(hc:AP N w0 g0 e S a w)(h:Dn P cls ops Q ops.toList e S)(ro:Option Nat):(Code.region id ops true).wpIn (wR ro) 0 P Q' a w:=by
 refine wpIn_region_any hm (IL ro (cls:=cls) hds hQ _ _ e S a _ (hc.draw _) ?_)
 have :=Un (md:=.any) ops.toList 0 (Array.replicate ops.size false) e S (by simp) (by simpa[R5] using hB) h
 simpa using this
theorem Qk(ro:Option Nat){cls:Op→Cls}{ops:Array Oper}(hds:D3 N ops=true){Q:Af→Ae→Prop}{Q':Exit→Act→World→Prop}(hQ:∀e S a w,AP N w0 g0 e S a w→Q e S→Q' .normal a w):
  ∀(l:List Oper) (_:∀o∈l,∃i:Nat,ops[i]? = some o) (e:Af) (S:Ae) (a:Act) (w:World),AP N w0 g0 e S a w→Dn P cls ops Q l e S→wpListIn (wR ro) 0 P ops Q' l a w
 |[],_,e,S,a,w,hc,h=>hQ e S a w hc h
 | o::l,hl,e,S,a,w,hc,h=>by
  obtain⟨i,hi⟩:=hl o (by simp)
  have hd:=PG hds hi;have her:∃g,CZ w g e a:=by obtain⟨_,_,g,_,h4,_⟩:=hc;exact⟨g,h4⟩
  obtain⟨g,her⟩:=her;unfold Dn at h;unfold wpListIn;split at h
  ·rename_i hw
   rw[Jr her hw];obtain⟨v,S',h1,h2⟩:=h;simp only[if_true];exact hc.does hd h1.does (fun a' w' hc'=>Qk ro hds hQ l (fun o ho=>hl o (by simp[ho])) _ _ a' w' hc' h2) ro
  ·rename_i hw
   rw[Jr her hw];simp only[Bool.false_eq_true,if_false];exact⟨fun _ _=>trivial,Qk ro hds hQ l (fun o ho=>hl o (by simp[ho])) _ _ _ w (hc.skip hd) h⟩
  ·exact h.elim
theorem OO{cls:Op→Cls}{ops:Array Oper}{id:Nat}{Q:Af→Ae→Prop}{Q':Exit→Act→World→Prop}{e:Af}{S:Ae}{a:Act}{w:World}(hds:D3 N ops=true)
  (hQ:∀e S a w,AP N w0 g0 e S a w→Q e S→Q' .normal a w)(hc:AP N w0 g0 e S a w)(h:Dn P cls ops Q ops.toList e S)(ro:Option Nat):(Code.region id ops false).wpIn (wR ro) 0 P Q' a w:=
 wpIn_region_list (Qk ro hds hQ ops.toList (fun o ho=>by
  obtain⟨i,hi⟩:=List.mem_iff_getElem?.1 ho;exact⟨i,by simpa using hi⟩) e S a w hc h)
end
end Pe
namespace Pe
open Go Go.RowKit
variable [Tab]
theorem Et{n:Nat}{ρ:Nat→Nat}{v:AV}(h:v.o0 n=true)(hρ:∀i,i<n→ρ i=i):v.r0 ρ=v:=by
 cases v with
 |sl m es=>
  cases m with
  |own l=>simp only[AV.o0,decide_eq_true_eq]at h;simp only[AV.r0,Mode.ren,hρ l h]
  |_=>rfl
 |ptr l o=>simp only[AV.o0,decide_eq_true_eq]at h;simp only[AV.r0,hρ l h]
 |mp l=>simp only[AV.o0,decide_eq_true_eq]at h;simp only[AV.r0,hρ l h]
 |ws l o m c=>simp only[AV.o0,decide_eq_true_eq]at h;simp only[AV.r0,hρ l h]
 |wr l m o=>simp only[AV.o0,decide_eq_true_eq]at h;simp only[AV.r0,hρ l h]
 |wx l o m c=>simp only[AV.o0,decide_eq_true_eq]at h;simp only[AV.r0,hρ l h]
 |_=>rfl
theorem EM{f:AV→AV}{p:AV→Bool}{l:List AV}(h:l.all p=true)(hf:∀v,p v=true→f v=v):l.map f=l:=by
 induction l with
 |nil=>rfl
 |cons a l ih=>
  simp only[List.all_cons,Bool.and_eq_true]at h;rw[List.map_cons,hf a h.1,ih h.2]
theorem DJ{n:Nat}{ρ:Nat→Nat}{v:AV}(h:v.o1 n=true)(hρ:∀i,i<n→ρ i=i):v.r1 ρ=v:=by
 cases v with
 |fn f a c=>
  simp only[AV.o1,Bool.and_eq_true]at h;simp only[AV.r1];rw[EM h.1 (fun v hv=>Et hv hρ),EM h.2 (fun v hv=>Et hv hρ)]
 |bo b=>exact Et (v:=(.bo b)) h hρ
 |it k n=>exact Et (v:=(.it k n)) h hρ
 |st l=>exact Et (v:=(.st l)) h hρ
 |ot x=>exact Et (v:=(.ot x)) h hρ
 |sl m es=>exact Et (v:=(.sl m es)) h hρ
 |ptr l o=>exact Et (v:=(.ptr l o)) h hρ
 |pst x o=>exact Et (v:=(.pst x o)) h hρ
 |mp l=>exact Et (v:=(.mp l)) h hρ
 |fm es=>exact Et (v:=(.fm es)) h hρ
 |ws l o m c=>exact Et (v:=(.ws l o m c)) h hρ
 |wr l m o=>exact Et (v:=(.wr l m o)) h hρ
 |wx l o m c=>exact Et (v:=(.wx l o m c)) h hρ
 |junk=>exact Et (v:=.junk) h hρ
 |agg cs=>exact Et (v:=(.agg cs)) h hρ
 |tup vs=>exact Et (v:=(.tup vs)) h hρ
theorem DI{n:Nat}{ρ:Nat→Nat}{v:AV}(h:v.o2 n=true)(hρ:∀i,i<n→ρ i=i):v.r2 ρ=v:=by
 cases v with
 |agg cs=>simp only[AV.r2];rw[EM h (fun v hv=>DJ hv hρ)]
 |bo b=>exact DJ (v:=(.bo b)) h hρ
 |it k n=>exact DJ (v:=(.it k n)) h hρ
 |st l=>exact DJ (v:=(.st l)) h hρ
 |ot x=>exact DJ (v:=(.ot x)) h hρ
 |sl m es=>exact DJ (v:=(.sl m es)) h hρ
 |ptr l o=>exact DJ (v:=(.ptr l o)) h hρ
 |pst x o=>exact DJ (v:=(.pst x o)) h hρ
 |mp l=>exact DJ (v:=(.mp l)) h hρ
 |fm es=>exact DJ (v:=(.fm es)) h hρ
 |ws l o m c=>exact DJ (v:=(.ws l o m c)) h hρ
 |wr l m o=>exact DJ (v:=(.wr l m o)) h hρ
 |wx l o m c=>exact DJ (v:=(.wx l o m c)) h hρ
 |junk=>exact DJ (v:=.junk) h hρ
 |fn f a c=>exact DJ (v:=(.fn f a c)) h hρ
 |tup vs=>exact DJ (v:=(.tup vs)) h hρ
theorem DG{n:Nat}{ρ:Nat→Nat}{v:AV}(h:v.ok n=true)(hρ:∀i,i<n→ρ i=i):v.ren ρ=v:=by
 cases v with
 |tup cs=>simp only[AV.ren];rw[EM h (fun v hv=>DI hv hρ)]
 |bo b=>exact DI (v:=(.bo b)) h hρ
 |it k n=>exact DI (v:=(.it k n)) h hρ
 |st l=>exact DI (v:=(.st l)) h hρ
 |ot x=>exact DI (v:=(.ot x)) h hρ
 |sl m es=>exact DI (v:=(.sl m es)) h hρ
 |ptr l o=>exact DI (v:=(.ptr l o)) h hρ
 |pst x o=>exact DI (v:=(.pst x o)) h hρ
 |mp l=>exact DI (v:=(.mp l)) h hρ
 |fm es=>exact DI (v:=(.fm es)) h hρ
 |ws l o m c=>exact DI (v:=(.ws l o m c)) h hρ
 |wr l m o=>exact DI (v:=(.wr l m o)) h hρ
 |wx l o m c=>exact DI (v:=(.wx l o m c)) h hρ
 |junk=>exact DI (v:=.junk) h hρ
 |fn f a c=>exact DI (v:=(.fn f a c)) h hρ
 |agg cs=>exact DI (v:=(.agg cs)) h hρ
section
variable {P:Program}
theorem AC.pure{f:FuncId}{args:List AV}{v:AV}(h:AC P f args [] v [])(ha:args.all (AV.ok 0)=true)(hv:v.ok 0=true)(T:Ae):AC P f args T v T:=by
 have :=h.frame (T:=T) [] ⟨List.nodup_nil,rfl,fun i o hi=>by simp at hi⟩ ha hv (fun i o hi=>by simp at hi)
 rw[EM ha (fun v hv=>DG hv (fun i hi=>absurd hi (Nat.not_lt_zero _))),DG hv (fun i hi=>absurd hi (Nat.not_lt_zero _))]at this
 simpa[after,Es] using this
def AV.wk1:AV→AV
 |.sl _ es=>.sl .ro es
 |v=>v
def AV.wk2:AV→AV
 |.agg cs=>.agg (cs.map AV.wk1)
 |v=>v.wk1
def AV.wk:AV→AV
 |.tup vs=>.tup (vs.map AV.wk2)
 |v=>v.wk2
theorem Rel.wk1{w:World}{g:Gh}{v:AV}{cv:Value}(h:Rel w g v cv):Rel w g v.wk1 cv:=by
 cases h with
 |sl _ m es A c sz cu hc hcm hsz hA h1 hr hm=>exact .sl _ .ro es A c sz cu hc hcm hsz hA h1 hr trivial
 |bo=>exact .bo _ _
 |it=>exact .it _ _ _
 |st=>exact .st _ _
 |ot _ _ h=>exact .ot _ _ h
 |junk=>exact .junk _ _
 |agg _ cs arr hn h1 hr=>exact .agg _ cs arr hn h1 hr
 |tup _ vs arr hn hr=>exact .tup _ vs arr hn hr
 |ptr _ l off hl hb=>exact .ptr _ l off hl hb
 |pst _ e off b o cu hA h1 hr=>exact .pst _ e off b o cu hA h1 hr
 |fn _ f first caps fa ca hf hc hrf hrc=>exact .fn _ f first caps fa ca hf hc hrf hrc
 |mp _ l hl hb=>exact .mp _ l hl hb
 |fm _ es b me clock hG hb hs hk hv=>exact .fm _ es b me clock hG hb hs hk hv
 |ws _ l o m c hl hb hc hm=>exact .ws _ l o m c hl hb hc hm
 |wr _ l m c A hl hb hw hc hm h0 hA=>exact .wr _ l m c A hl hb hw hc hm h0 hA
 |wp _ l m off b o hl hb hw hA=>exact .wp _ l m off b o hl hb hw hA
 |wx _ l o n m c A hl hb hm hc hcm hx=>exact .wx _ l o n m c A hl hb hm hc hcm hx
theorem O7{w:World}{g:Gh}{f:AV→AV}{vs:List AV}{arr:Array Value}(hf:∀u v,Rel w g u v→Rel w g (f u) v)
  (h:∀(j:Nat) u v,vs[j]? = some u→arr[j]? = some v→Rel w g u v):∀(j:Nat) u v,(vs.map f)[j]? = some u→arr[j]? = some v→Rel w g u v:=by
 intro j u v hu hv;rw[List.getElem?_map]at hu
 obtain⟨u',hu',rfl⟩:=Option.map_eq_some_iff.1 hu;exact hf u' v (h j u' v hu' hv)
theorem Rel.wk2{w:World}{g:Gh}{v:AV}{cv:Value}(h:Rel w g v cv):Rel w g v.wk2 cv:=by
 cases v with
 |agg cs=>
  cases h with
  |agg _ _ arr hn h1 hr=>exact .agg _ _ arr (by simpa using hn) h1 (O7 (fun u v h=>h.wk1) hr)
 |_=>exact Rel.wk1 h
theorem Rel.wk{w:World}{g:Gh}{v:AV}{cv:Value}(h:Rel w g v cv):Rel w g v.wk cv:=by
 cases v with
 |tup cs=>
  cases h with
  |tup _ _ arr hn hr=>exact .tup _ _ arr (by simpa using hn) (O7 (fun u v h=>h.wk2) hr)
 |_=>exact Rel.wk2 h
theorem AC.weak{f:FuncId}{args:List AV}{S S':Ae}{v:AV}(h:AC P f (args.map AV.wk) S v S'):AC P f args S v S':=
 ⟨h.can,fun w g cargs hw hargs=>h.run w g cargs hw ⟨by rw[hargs.1];simp,O7 (fun u v h=>h.wk) hargs.2⟩⟩
def IE(P:Program)(t:TypeId)(l c:AV)(S:Ae):Option (AV×Ae):=
 match Cz P t,l,c with
 |some (e,sz,by_),.it _ n,.it _ m=>if n=0∧0≤m∧Ct m.toNat by_=true then some (.sl (.own S.length) [],S++[.buf 0 e sz])else none
 |_,_,_=>none
theorem Zix{o:Oper}{e:Af}{S S':Ae}{v:AV}{t:TypeId}{x y:Operand}(ho:o.op=.makeSlice t x y)(h:IE P t (ev e x) (ev e y) S=some (v,S')):AR P o e S v S':=
 Dj fun ρ w g hw hr=>by
  have hx:=hr x (by rw[ho];simp[Op.operands])
  have hy:=hr y (by rw[ho];simp[Op.operands])
  unfold IE at h;split at h
  ·rename_i el sz by_ k n k' m ht h1 h2
   obtain⟨hut,hsz0,i,z,hi,hz,rfl,rfl,hzs⟩:=Ir ht;split at h
   ·rename_i hcond
    obtain⟨rfl,h0,hfit⟩:=hcond;cases h
    obtain⟨hf1,hf2⟩:=Je hfit;rw[h1]at hx;rw[h2]at hy;generalize hcx:ρ x=cx at hx;generalize hcy:ρ y=cy at hy;cases hx;cases hy
    have hmm:(m.toNat:Int)=m:=Int.toNat_of_nonneg h0;have hcb:(i.bytes:Int)*m≤140737488355328:=by
     have h3:((m.toNat*i.bytes:Nat):Int)≤140737488355328:=by omega
     rw[Int.natCast_mul,hmm,Int.mul_comm]at h3;exact h3
    have hrun:=run_make (P:=P) w t el i z hut hi hz k k' 0 m (Int.le_refl _) h0 (by omega) (by omega)
    obtain⟨g',h5,h6,h7⟩:=hw.new_buf (es:=[]) (cur:=madeCells z.cells (m.toNat*i.size)) (e:=el) (sz:=i.size) (cap:=m.toNat) (fr:=(0,0)) hsz0 (by simp) (by simp) (by unfold maxLen;omega) (by simp[madeCells]) (.inl (by simp)) [] ⟨by simp[Ak],by simp,by simp[Ak]⟩ (by simp)
    refine⟨_,_,g',?_,h5,h7,h6⟩
    unfold execOp;simp only[ho,hcx,hcy,Sem.run_bind,hrun,Result.andThen_ok,Sem.run_pure];rfl
   ·cases h
  ·cases h
def PS(P:Program)(d:TypeId):Option TypeId:=
 match P.underlying d with
 |some (.slice el)=>match P.underlying el with
  |some (.int .u8)=>some el
  |_=>none
 |_=>none
theorem ZjT{d el:TypeId}(h:PS P d=some el):P.underlying d=some (.slice el)∧P.underlying el=some (.int .u8):=by
 unfold PS at h;split at h
 ·rename_i e h1
  split at h
  ·rename_i h2
   cases h
   exact⟨h1,h2⟩
  ·cases h
 ·cases h
def Jy(P:Program)(s d:TypeId)(x:AV)(S:Ae):Option (AV×Ae):=
 match Ba P s,PS P d,x with
 |.str,some el,.st l=>if l.length≤140737488355328 then some (.sl (.own S.length) (l.map u8),S++[.buf l.length el 1])else none
 |_,_,_=>none
def Jv(P:Program)(t:TypeId)(n:Nat)(qs:List (Nat×AV)):Option AV:=if(Cz P t).isSome∧(Bt P t).all (fun s=>(BF P s.1).isSome)=true then Jw P t n qs else none
def B4{α:Type}(x:Option α)(K:α→Prop):Prop:=
 match x with
 |some v=>K v
 |none=>False
@[congr] theorem Zm3{α:Type}{x y:Option α}(K:α→Prop)(h:x=y):B4 x K=B4 y K:=by rw[h]
def MY{α:Type}(x y:Option α):Option α:=match x with
 |some v=>some v
 |none=>y
theorem Wk{α:Type}(v:α)(y:Option α):MY (some v) y=some v:=rfl
theorem Wl{α:Type}(y:Option α):MY none y=y:=rfl
def OV(b:Bool):Option Unit:=if b then some ()else none
theorem Wr:OV true=some ():=rfl
theorem ZY{α:Type}(v:α)(K:α→Prop):B4 (some v) K=K v:=rfl
theorem ZZ{α:Type}(K:α→Prop):B4 none K=False:=rfl
theorem C8{α:Type}{x:Option α}{K:α→Prop}(h:B4 x K):∃v,x=some v∧K v:=by
 cases x with
 |none=>exact h.elim
 |some v=>exact⟨v,rfl,h⟩
def D1(b:Bool)(X Y:Prop):Prop:=(b=true→X)∧(b=false→Y)
@[congr] theorem Zmr{b c:Bool}(X Y:Prop)(h:b=c):D1 b X Y=D1 c X Y:=by rw[h]
theorem GW(X Y:Prop):D1 true X Y=X:=by simp[D1]
theorem Hu(X Y:Prop):D1 false X Y=Y:=by simp[D1]
theorem J5{b:Bool}{X Y:Prop}(h:b=true→X)(h':b=false→Y):D1 b X Y:=⟨h,h'⟩
def Dy(C:AV→Ae→Prop)(K:AV→Ae→Prop):Prop:=∃v S,C v S∧K v S
@[congr] theorem Zm2{C D:AV→Ae→Prop}(K:AV→Ae→Prop)(h:C=D):Dy C K=Dy D K:=by rw[h]
theorem Tx{C:AV→Ae→Prop}{K:AV→Ae→Prop}(v:AV)(S:Ae)(h:C v S)(h':K v S):Dy C K:=⟨v,S,h,h'⟩
def Ms(P:Program)(f:FuncId)(args:List AV)(S:Ae)(v:AV)(S':Ae):Prop:=AC P f (args.map AV.wk) [] v []∧(args.map AV.wk).all (AV.ok 0)=true∧v.ok 0=true∧S'=S
def NW(P:Program)(f:FuncId)(args:List AV)(S:Ae)(v:AV)(S':Ae):Prop:=(∀R,AC P f (args.map AV.wk) (S++R) v (S++R))∧S'=S
def KD(P:Program)(f:FuncId)(args:List AV)(S:Ae)(v:AV)(S':Ae):Prop:=AC P f (args.map AV.wk) S v S'
def F2(P:Program)(pf rf:List FuncId)(f:FuncId)(args:List AV)(S:Ae):AV→Ae→Prop:=
 if pf.contains f then Ms P f args S else if rf.contains f then NW P f args S else KD P f args S
def T0(P:Program)(pf rf:List FuncId)(fo:Operand)(f:FuncId)(args:List AV)(S:Ae):AV→Ae→Prop:=
 match fo with
 |.tmp t=>if pf.contains (t+1000000)then Ms P f args S else if rf.contains (t+1000000)then NW P f args S else F2 P pf rf f args S
 |_=>F2 P pf rf f args S
def CO(P:Program)(b:Nat)(args:List AV)(S:Ae)(v:AV)(S':Ae):Prop:=
 ∀(w:World) (g:Gh) (cargs:Array Value),WF w g S→FZ w g args cargs → ∃fn tmps asn bdy,(Instr.yield b cargs).run P w=.ok (.round b fn tmps asn bdy) w ∧
  RoundIn Fence.wide 0 P b fn tmps asn bdy w fun r w'=>∃cv g',r=.returned cv∧WF w' g' S'∧Rel w' g' v cv∧Evo w g w' g'
theorem CO.weak{b:Nat}{args:List AV}{S S':Ae}{v:AV}(h:CO P b (args.map AV.wk) S v S'):CO P b args S v S':=
 fun w g cargs hw hargs=>h w g cargs hw ⟨by rw[hargs.1];simp,O7 (fun u v h=>h.wk) hargs.2⟩
theorem Ziq{o:Oper}{e:Af}{S S':Ae}{v:AV}{c:Call}{fo:Operand}{b:Nat}{fa ca:List AV}(ho:o.op=.call c)(hc:c.callee=.value fo)(hf:ev e fo=.fn (.yield b) fa ca)(hca:ca=[])
  (h:CO P b (fa++c.args.toList.map (ev e)) S v S'):AR P o e S v S':=by
 intro a w g hw hr K Q hK;have hfo:=hr fo (by rw[ho];simp[Op.operands,Call.operands,hc])
 rw[hf]at hfo;generalize hcf:a.eval fo=cf at hfo;cases hfo with
 | fn _ _ _ _ fav cav hfs hcs hrf hrc=>
  have hargs:FZ w g (fa++c.args.toList.map (ev e)) (fav++c.args.map a.eval):=by
   refine⟨by simp[hfs],fun j u v hu hv=>?_⟩
   have hv':(fav.toList++c.args.toList.map a.eval)[j]? = some v:=by
    rw[←hv,←Array.getElem?_toList]
    simp
   have l1:fav.toList.length=fa.length:=by simpa using hfs
   rw[List.getElem?_append]at hu hv'
   rw[l1]at hv';split at hu
   ·rename_i h1
    rw[if_pos h1]at hv';exact hrf j u v hu (by simpa using hv')
   ·rename_i h1
    rw[if_neg h1]at hv';rw[List.getElem?_map]at hu hv'
    obtain⟨x,hx,rfl⟩:=Option.map_eq_some_iff.1 hu;rw[hx]at hv';cases hv'
    refine hr x ?_
    rw[ho];simp only[Op.operands,Call.operands,Array.toList_append,List.mem_append];exact .inr (List.mem_iff_getElem?.2 ⟨_,hx⟩)
  obtain⟨fn,tmps,asn,bdy,hy,hR⟩:=h w g _ hw hargs;have hrun:(execOp a.eval o).run P w=.ok (.round b fn tmps asn bdy) w:=by
   unfold execOp;simp only[ho];show Sem.run P (do let d ←resolve a.eval c o.type;invoke d.target d.args) w=_
   simp only[resolve,hc,hcf,Deferred.ofValue,Sem.run_bind,Sem.run_pure,Result.andThen_ok,invoke];exact hy
  refine N7 hrun (fun _ e=>by cases e) fun ro=>?_
  rw[Oper.uponIn_round];refine⟨fun e=>by simp[wR,Fence.wide]at e,RoundIn.mono (show RoundIn (wR ro) (0-1) P b fn tmps asn bdy w _ from hR) ?_⟩
  rintro r w' ⟨cv,g',rfl,h1,h2,h3⟩
  exact hK cv w' g' h1 h2 h3
def Mu(P:Program)(pf rf:List FuncId)(t:Nat)(b:Nat)(args:List AV)(S:Ae)(v:AV)(S':Ae):Prop:=(pf.contains (t+1000000)=false∧rf.contains (t+1000000)=false)∧CO P b (args.map AV.wk) S v S'
def Bd(P:Program)(pf rf:List FuncId)(op:Op)(e:Af)(S:Ae)(K:AV→Ae→Prop):Prop:=
 match op with
 |.load t x=>B4 (D7 (AJ P t) S (ev e x)) fun v=>K v S
 |.store t x y=>B4 (Iw (AJ P t) S (ev e x) (ev e y)) fun S'=>K .junk S'
 |.box _ x=>B4 (if(ev e x).solid=true then some (ev e x).cells else none) fun cs=>K (.ptr S.length 0) (S++[.cells cs])
 |.alloc t=>B4 (BF P t) fun z=>K (.ptr S.length 0) (S++[GD t z])
 |.buildSlice t n parts=>B4 (Jv P t n (parts.toList.map fun p=>(p.1,ev e p.2))) fun v=>K v S
 |.makeSlice t x y=>B4 (MY (IE P t (ev e x) (ev e y) S) (ID P t (ev e x) (ev e y) S)) fun r=>K r.1 r.2
 |.makeMap t r=>B4 (OV ((r.isNone||(Ey P t).isSome)&&Ju (r.map (ev e)))) fun _=>K (.mp S.length) (S++[.map []])
 |.insert t m k v=>B4 (G4 (Ey P t) S (ev e m) (ev e k) (ev e v)) fun S'=>K .junk S'
 |.mapUpdate t m k v=>B4 (G4 (Ey P t) S (ev e m) (ev e k) (ev e v)) fun S'=>K .junk S'
 |.lookup t x k b=>B4 (Gy (Ey P t) S (ev e x) (ev e k) b) fun v=>K v S
 |.range t x=>B4 (Iy (Ba P t) S (ev e x)) fun r=>K r.1 r.2
 |.next x b=>B4 (IC S (ev e x) b) fun r=>K r.1 r.2
 |.convert s d x=>match Ba P d with
  |.bytes=>B4 (Jy P s d (ev e x) S) fun r=>K r.1 r.2
  |_=>B4 (HL P s d (ev e x)) fun v=>K v S
 | .call c=>match c.callee with
  | .value fo=>match ev e fo with
   |.fn (.func f) fa ca=>Dy (T0 P pf rf fo f (fa++c.args.toList.map (ev e)++ca) S) K
   |.fn (.yield b) fa []=>match fo with
    |.tmp t=>Dy (Mu P pf rf t b (fa++c.args.toList.map (ev e)) S) K
    |_=>False
   |_=>False
  |.builtin .append=>match c.args.toList,c.argTypes.toList with
   |[x,y],[t,u]=>B4 (GB P t u S (ev e x) (ev e y)) fun r=>K r.1 r.2
   |_,_=>False
  |.builtin b=>B4 (Gz P b c.argTypes (c.args.toList.map (ev e))) fun v=>K v S
  |_=>False
 |.pick c x y=>match ev e c with
  |.bo t=>K (if t then ev e x else ev e y) S
  |_=>False
 |.binOp op t x y _=>B4 (GA P op t e x y) fun v=>K v S
 |op=>B4 (Fy P e op) fun v=>K v S
theorem N5{c:Cls}{o:Oper}{e:Af}{S:Ae}{v:AV}(hc:c=.free)(h:Fy P e o.op=some v):CE P c o e S v S:=by
 subst hc;exact⟨rfl,fun T=>YX h⟩
theorem J7{S:Ae}{l:Nat}{o:SObj}(h:S[l]? = some o)(R:Ae):(S++R)[l]? = some o:=by
 rw[List.getElem?_append_left (List.getElem?_eq_some_iff.1 h).1];exact h
theorem ZkM{sz:Option (Nat×Bool)}{S:Ae}{x v:AV}(h:D7 sz S x=some v)(R:Ae):D7 sz (S++R) x=some v:=by
 unfold D7 at h ⊢;split at h
 ·split at h
  ·rename_i cs hS
   simp only[J7 hS R];exact h
  ·cases h
 ·exact h
 ·split at h
  ·rename_i cs _ _ hS
   simp only[J7 hS R];exact h
  ·cases h
 ·cases h
theorem ZkK{m:Option (Option IntKind×AV)}{S:Ae}{x k v:AV}{ok:Bool}(h:Gy m S x k ok=some v)(R:Ae):Gy m (S++R) x k ok=some v:=by
 unfold Gy at h ⊢;split at h
 ·split at h
  ·rename_i es hS
   simp only[J7 hS R];exact h
  ·cases h
 ·exact h
 ·exact h
 ·cases h
theorem N4{pf rf:List FuncId}{o:Oper}{e:Af}{S:Ae}{K:AV→Ae→Prop}(h:Bd P pf rf o.op e S K):∃v S',CE P (Bh P pf rf o.op) o e S v S'∧K v S':=by
 unfold Bd at h;cases ho:o.op<;>rw[ho]at h<;>simp only at h
 case load t x=>
  obtain⟨v,hv,h⟩:=C8 h;exact⟨v,S,⟨rfl,fun R=>S9 ho (ZkM hv R)⟩,h⟩
 case store t x y=>
  obtain⟨S',hv,h⟩:=C8 h;exact⟨.junk,S',Zir ho hv,h⟩
 case box t x=>
  obtain⟨cs,hv,h⟩:=C8 h;split at hv
  ·rename_i hs
   cases hv
   exact⟨_,_,⟨⟨_,rfl⟩,ZiH ho hs⟩,h⟩
  ·cases hv
 case alloc t=>
  obtain⟨z,hv,h⟩:=C8 h;exact⟨_,_,⟨⟨_,rfl⟩,Y0 ho hv⟩,h⟩
 case buildSlice t n parts=>
  obtain⟨v,hv,h⟩:=C8 h;unfold Jv at hv;split at hv
  ·rename_i hc
   exact⟨v,S,⟨rfl,fun T=>ZiB ho hv (fun e' sz ag hs=>by have :=hc.2;rw[hs]at this;simpa using this)⟩,h⟩
  ·cases hv
 case makeSlice t x y=>
  obtain⟨⟨v,S'⟩,hv,h⟩:=C8 h;refine⟨v,S',?_,h⟩
  unfold MY at hv;split at hv
  ·rename_i h1;cases hv;exact Zix ho h1
  ·exact Ziv ho hv
 case makeMap t r=>
  obtain⟨_,hv,h⟩:=C8 h;unfold OV at hv;split at hv
  ·rename_i h1
   simp only[Bool.and_eq_true]at h1;exact⟨_,_,⟨⟨_,rfl⟩,Ziw ho h1.1 h1.2⟩,h⟩
  ·cases hv
 case insert t m k v=>
  obtain⟨S',hv,h⟩:=C8 h;exact⟨.junk,S',YV (.inr ho) hv,h⟩
 case mapUpdate t m k v=>
  obtain⟨S',hv,h⟩:=C8 h;exact⟨.junk,S',YV (.inl ho) hv,h⟩
 case lookup t x k b=>
  obtain⟨v,hv,h⟩:=C8 h;exact⟨v,S,⟨rfl,fun R=>Ziy ho (ZkK hv R)⟩,h⟩
 case range t x=>
  obtain⟨⟨v,S'⟩,hv,h⟩:=C8 h;exact⟨v,S',Zis ho hv,h⟩
 case next x b=>
  obtain⟨⟨v,S'⟩,hv,h⟩:=C8 h;exact⟨v,S',Ziu ho hv,h⟩
 case convert s d x=>
  split at h
  ·rename_i hk
   obtain⟨r,hv,h⟩:=C8 h;refine⟨r.1,r.2,?_,h⟩
   unfold Jy at hv;split at hv
   ·rename_i el l h1 h2 h3
    split at hv
    ·rename_i h4
     cases hv
     obtain⟨h5,h6⟩:=ZjT h2;simp only[Bh,hk];exact ZiG ho h1 h5 h6 h3 h4
    ·cases hv
   ·cases hv
  ·rename_i hk
   obtain⟨v,hv,h⟩:=C8 h;refine⟨v,S,N5 ?_ (by rw[ho];exact hv),h⟩
   simp only[Bh]
 case binOp op t x y yt=>
  obtain⟨v,hv,h⟩:=C8 h;unfold GA at hv;split at hv
  ·rename_i hy
   split at hv
   ·rename_i ht
    exact⟨v,S,⟨rfl,fun T=>Zit ho hy ht hv⟩,h⟩
   ·cases hv
  ·exact⟨v,S,N5 rfl (by rw[ho];exact hv),h⟩
 case pick c x y=>
  split at h
  ·rename_i t ht
   exact⟨_,S,N5 rfl (by rw[ho];simp only[Fy,ht]),h⟩
  ·exact h.elim
 case call c=>
  split at h
  ·rename_i fo hfo
   split at h
   ·rename_i f fa ca hf
    obtain⟨v,S',h,h4⟩:=h;refine⟨v,S',?_,h4⟩
    have purec:Ms P f (fa++c.args.toList.map (ev e)++ca) S v S'→CE P .free o e S v S':=fun⟨h1,h2,h3,h5⟩=>by
     subst h5;exact⟨rfl,fun T=>Ny ho hfo hf (h1.pure h2 h3 T).weak⟩
    have readc:NW P f (fa++c.args.toList.map (ev e)++ca) S v S'→CE P .read o e S v S':=fun⟨h1,h5⟩=>by
     subst h5;exact⟨rfl,fun R=>Ny ho hfo hf (h1 R).weak⟩
    have anyc:F2 P pf rf f (fa++c.args.toList.map (ev e)++ca) S v S'→AR P o e S v S':=fun h=>by
     unfold F2 at h;split at h
     ·exact(purec h).does
     ·split at h
      ·exact(readc h).does
      ·exact Ny ho hfo hf (AC.weak h)
    unfold T0 at h;cases fo with
    | tmp t=>
     simp only at h
     simp only[Bh,hfo];split at h
     ·rename_i hp;rw[if_pos hp];exact purec h
     ·rename_i hp
      rw[if_neg hp];split at h
      ·rename_i hq;rw[if_pos hq];exact readc h
      ·rename_i hq;rw[if_neg hq];exact anyc h
    | func f'=>
     simp only at h
     simp only[Bh,hfo]
     have:ev e (.func f')=.fn (.func f) fa ca:=hf;cases this
     unfold F2 at h;split at h
     ·rename_i hp;rw[if_pos hp];exact purec h
     ·rename_i hp
      rw[if_neg hp];split at h
      ·rename_i hq;rw[if_pos hq];exact readc h
      ·rename_i hq;rw[if_neg hq];exact Ny ho hfo hf (AC.weak h)
    |const v=>simp only[Bh,hfo];exact anyc h
    |global g=>simp only[Bh,hfo];exact anyc h
   ·rename_i b fa hf
    cases fo with
    |tmp t=>
     obtain⟨v,S',⟨⟨h1,h2⟩,h3⟩,h4⟩:=h;refine⟨v,S',?_,h4⟩
     simp only[Bh,hfo];rw[if_neg (by rw[h1];exact Bool.false_ne_true),if_neg (by rw[h2];exact Bool.false_ne_true)]
     exact Ziq ho hfo hf rfl (CO.weak h3)
    |_=>exact h.elim
   ·exact h.elim
  ·rename_i hb
   split at h
   ·rename_i x y t u hargs hts
    obtain⟨r,hv,h⟩:=C8 h;refine⟨r.1,r.2,?_,h⟩
    have hc:c={ callee:=.builtin .append,args:= #[x,y],argTypes:= #[t,u] }:=by
     cases c with |mk ce ar at_=>
     simp only at hb hargs hts
     rw[hb];congr 1
     ·exact Array.ext' hargs
     ·exact Array.ext' hts
    simp only[Bh,hb];exact YY (by rw[ho,hc]) hv
   ·exact h.elim
  ·rename_i b hne hb
   obtain⟨v,hv,h⟩:=C8 h;refine⟨v,S,?_,h⟩
   have hd:∀T,AR P o e T v T:=fun T=>YX (by rw[ho];simp only[Fy,hb];exact hv)
   simp only[Bh,hb];split<;>first|(rename_i hh;cases hh;done)|exact⟨rfl,hd⟩|exact hd S
  ·exact h.elim
 all_goals
  obtain⟨v,hv,h⟩:=C8 h;first
   |exact⟨v,S,N5 rfl (by rw[ho];exact hv),h⟩
   |(cases hv;done)
end
end Pe
end
end Go.Proofs.YtchpmmjmimaigaaGreatDoor
