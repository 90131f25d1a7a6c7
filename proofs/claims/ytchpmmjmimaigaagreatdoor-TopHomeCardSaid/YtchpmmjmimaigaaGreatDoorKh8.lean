import Derived.Test.YtchpmmjmimaigaaGreatDoorKh7
import Derived.Below
import Derived.ChangeSame
import Derived.ProofKit
import Derived.OpenShut
import Derived.ShutString
import Derived.Deep.Strs
import Derived.SizedLaws
import Derived.Deep.Slices
import Derived.ChangeArms
import Derived.Laws.Entries
set_option linter.unusedSectionVars false
set_option linter.unusedVariables false
set_option linter.unusedSimpArgs false
namespace Go.Proofs.YtchpmmjmimaigaaGreatDoor
section
namespace Pe
open Tryz
open Go
variable [Tab]
set_option maxRecDepth 100000
theorem an{a b:Prop}(x:a)(y:b):a∧b:=⟨x,y⟩
theorem Al{A B:Prop}(h:B)(e:A=B:=by
    conv=>
      lhs
      simp only[Cm,Cu,Dh,List.map_cons,List.map_nil,List.map_toArray,List.getElem?_toArray,List.getElem?_cons_zero,List.getElem?_cons_succ,Option.bind_some,Option.bind_none,List.append_eq,List.cons_append,List.nil_append]):A:=e▸h
theorem Ab{A:Prop}(h:A:=by first|rfl|(simp only[↓Qp,↓Rj,↓reduceIte,Nat.reduceEqDiff,↓TN,↓TO, *];done)):A:=h
theorem A3{p0 p1 p2:Prop}(x0:p0)(x1:p1)(x2:p2):p0∧p1∧p2:=⟨x0,x1,x2⟩
theorem A4{p0 p1 p2 p3:Prop}(x0:p0)(x1:p1)(x2:p2)(x3:p3):p0∧p1∧p2∧p3:=⟨x0,x1,x2,x3⟩
theorem A5{p0 p1 p2 p3 p4:Prop}(x0:p0)(x1:p1)(x2:p2)(x3:p3)(x4:p4):p0∧p1∧p2∧p3∧p4:=⟨x0,x1,x2,x3,x4⟩
theorem A6{p0 p1 p2 p3 p4 p5:Prop}(x0:p0)(x1:p1)(x2:p2)(x3:p3)(x4:p4)(x5:p5):p0∧p1∧p2∧p3∧p4∧p5:=⟨x0,x1,x2,x3,x4,x5⟩
theorem A7{p0 p1 p2 p3 p4 p5 p6:Prop}(x0:p0)(x1:p1)(x2:p2)(x3:p3)(x4:p4)(x5:p5)(x6:p6):p0∧p1∧p2∧p3∧p4∧p5∧p6:=⟨x0,x1,x2,x3,x4,x5,x6⟩
theorem A8{p0 p1 p2 p3 p4 p5 p6 p7:Prop}(x0:p0)(x1:p1)(x2:p2)(x3:p3)(x4:p4)(x5:p5)(x6:p6)(x7:p7):p0∧p1∧p2∧p3∧p4∧p5∧p6∧p7:=⟨x0,x1,x2,x3,x4,x5,x6,x7⟩
theorem A9{p0 p1 p2 p3 p4 p5 p6 p7 p8:Prop}(x0:p0)(x1:p1)(x2:p2)(x3:p3)(x4:p4)(x5:p5)(x6:p6)(x7:p7)(x8:p8):p0∧p1∧p2∧p3∧p4∧p5∧p6∧p7∧p8:=⟨x0,x1,x2,x3,x4,x5,x6,x7,x8⟩
theorem F3{p0 p1 p2 p3 p4 p5 p6 p7 p8 p9:Prop}(x0:p0)(x1:p1)(x2:p2)(x3:p3)(x4:p4)(x5:p5)(x6:p6)(x7:p7)(x8:p8)(x9:p9):p0∧p1∧p2∧p3∧p4∧p5∧p6∧p7∧p8∧p9:=⟨x0,x1,x2,x3,x4,x5,x6,x7,x8,x9⟩
theorem AA{p0 p1 p2 p3 p4 p5 p6 p7 p8 p9 p10:Prop}(x0:p0)(x1:p1)(x2:p2)(x3:p3)(x4:p4)(x5:p5)(x6:p6)(x7:p7)(x8:p8)(x9:p9)(x10:p10):p0∧p1∧p2∧p3∧p4∧p5∧p6∧p7∧p8∧p9∧p10:=⟨x0,x1,x2,x3,x4,x5,x6,x7,x8,x9,x10⟩
theorem run{A B:Prop}(h:B)(e:A=B:=by
  conv=>
   lhs
   (try simp only[P7,P9,Qb,GW,Hu])
   (try simp -implicitDefEqProofs (maxSteps:=4000000) (disch:=(first|omega|(simp only[List.length_append,List.length_cons,List.length_map,List.length_nil,List.length_take,List.length_drop];omega))) only[↓Mw,Mx,Dk,↓reduceIte,Nat.reduceEqDiff,Nat.reduceAdd,Nat.reduceLT,Nat.reduceLeDiff,Nat.reduceMul,Nat.reduceSub,Int.reduceToNat,Int.reduceAdd,Int.reduceSub,Int.reduceMul,Int.reduceNeg,Int.reduceLE,Int.reduceLT,Int.reduceEq,Int.reduceBEq,Int.reduceBNe,Nat.reduceBEq,Nat.reduceBNe,EF,FC,G5,IA,Jx,Js,Iv,HL,IB,IH,II,IF,IG,Gz,D7,Iw,Jv,Jw,IE,ID,G4,Gy,DT,FP,Gg,I8,Ju,Iy,IC,Jy,GB,Fg,Ix,CB,Ic,apart,FB,Fy,FA,GD,HQ,F2,AV.wk,AV.wk2,AV.wk1,AV.cells,AV.solid,AV.ro,AV.ro1,←List.map_take,←List.map_drop,reduceCtorEq,Option.isNone_some,Option.isSome_none,Ls,Lr,Lh,KZ,KV,KU,KS,KR,KQ,KP,Lq,Lp,Lo,Ln,Lm,Ll,Lk,Lj,Li,Lg,Lf,Ld,Lc,Lb,La,KY,KX,KW])
   (try simp only[GW,Hu])):A:=e▸h
theorem Aa{F A B:Prop}(f:F)(h:B)(e:F→A=B:=by
  intro f;conv=>
   lhs
   (try simp only[P7,P9,Qb,GW,Hu])
   (try simp -implicitDefEqProofs (maxSteps:=4000000) (disch:=(first|omega|(simp only[List.length_append,List.length_cons,List.length_map,List.length_nil,List.length_take,List.length_drop];omega))) only[↓Mw,Mx,Dk,↓reduceIte,Nat.reduceEqDiff,Nat.reduceAdd,Nat.reduceLT,Nat.reduceLeDiff,Nat.reduceMul,Nat.reduceSub,Int.reduceToNat,Int.reduceAdd,Int.reduceSub,Int.reduceMul,Int.reduceNeg,Int.reduceLE,Int.reduceLT,Int.reduceEq,Int.reduceBEq,Int.reduceBNe,Nat.reduceBEq,Nat.reduceBNe,EF,FC,G5,IA,Jx,Js,Iv,HL,IB,IH,II,IF,IG,Gz,D7,Iw,Jv,Jw,IE,ID,G4,Gy,DT,FP,Gg,I8,Ju,Iy,IC,Jy,GB,Fg,Ix,CB,Ic,apart,FB,Fy,FA,GD,HQ,F2,AV.wk,AV.wk2,AV.wk1,AV.cells,AV.solid,AV.ro,AV.ro1,←List.map_take,←List.map_drop,reduceCtorEq,Option.isNone_some,Option.isSome_none,Ls,Lr,Lh,KZ,KV,KU,KS,KR,KQ,KP,Lq,Lp,Lo,Ln,Lm,Ll,Lk,Lj,Li,Lg,Lf,Ld,Lc,Lb,La,KY,KX,KW,f])
   (try simp only[GW,Hu])):A:=e f▸h
section
variable {P:Program} {pf rf:List FuncId} {e:Af} {f:FuncId} {d:Option Nat} {rest:List AO} {K:Af→Ae→Prop}
theorem cp{args args':List AV}{S:Ae}{v:AV}(h:AC P f args' [] v [])(h':Bs P pf rf rest (put e d v) S K)
  (ha:args.map AV.wk=args':=by rfl)(hk:args'.all (AV.ok 0)=true:=by rfl)(hv:v.ok 0=true:=by rfl):Dy (Ms P f args S) (F1 P pf rf d rest e K):=ZjH h ha hk hv h'
theorem Ex{v:AV}{n m:Nat}(h:v.o0 n=true)(hm:n≤m):v.o0 m=true:=by
 cases v with
 |sl mo es=>cases mo<;>simp_all [AV.o0];omega
 |ptr l o=>simp only[AV.o0,decide_eq_true_eq]at *;omega
 |mp l=>simp only[AV.o0,decide_eq_true_eq]at *;omega
 |ws l o k c=>simp only[AV.o0,decide_eq_true_eq]at *;omega
 |wr l k o=>simp only[AV.o0,decide_eq_true_eq]at *;omega
 |wx l o k c=>simp only[AV.o0,decide_eq_true_eq]at *;omega
 |_=>simp_all [AV.o0]
theorem Ew{v:AV}{n m:Nat}(h:v.o1 n=true)(hm:n≤m):v.o1 m=true:=by
 cases v with
 |fn g a c=>
  simp only[AV.o1,Bool.and_eq_true,List.all_eq_true]at *;exact⟨fun x hx=>Ex (h.1 x hx) hm,fun x hx=>Ex (h.2 x hx) hm⟩
 |bo b=>exact Ex (v:=.bo b) h hm
 |it k i=>exact Ex (v:=.it k i) h hm
 |st l=>exact Ex (v:=.st l) h hm
 |ot v=>exact Ex (v:=.ot v) h hm
 |sl m' es=>exact Ex (v:=.sl m' es) h hm
 |agg cs=>exact Ex (v:=.agg cs) h hm
 |tup vs=>exact Ex (v:=.tup vs) h hm
 |ptr l o=>exact Ex (v:=.ptr l o) h hm
 |pst e o=>exact Ex (v:=.pst e o) h hm
 |mp l=>exact Ex (v:=.mp l) h hm
 |fm es=>exact Ex (v:=.fm es) h hm
 |ws l o k c=>exact Ex (v:=.ws l o k c) h hm
 |wr l k o=>exact Ex (v:=.wr l k o) h hm
 |wx l o k c=>exact Ex (v:=.wx l o k c) h hm
 |junk=>exact Ex (v:=.junk) h hm
theorem DL{v:AV}{n m:Nat}(h:v.o2 n=true)(hm:n≤m):v.o2 m=true:=by
 cases v with
 |agg cs=>
  simp only[AV.o2,List.all_eq_true]at *;exact fun x hx=>Ew (h x hx) hm
 |bo b=>exact Ew (v:=.bo b) h hm
 |it k i=>exact Ew (v:=.it k i) h hm
 |st l=>exact Ew (v:=.st l) h hm
 |ot v=>exact Ew (v:=.ot v) h hm
 |sl m' es=>exact Ew (v:=.sl m' es) h hm
 |tup vs=>exact Ew (v:=.tup vs) h hm
 |ptr l o=>exact Ew (v:=.ptr l o) h hm
 |pst e o=>exact Ew (v:=.pst e o) h hm
 |fn f a c=>exact Ew (v:=.fn f a c) h hm
 |mp l=>exact Ew (v:=.mp l) h hm
 |fm es=>exact Ew (v:=.fm es) h hm
 |ws l o k c=>exact Ew (v:=.ws l o k c) h hm
 |wr l k o=>exact Ew (v:=.wr l k o) h hm
 |wx l o k c=>exact Ew (v:=.wx l o k c) h hm
 |junk=>exact Ew (v:=.junk) h hm
theorem Ev{v:AV}{n m:Nat}(h:v.ok n=true)(hm:n≤m):v.ok m=true:=by
 cases v with
 |tup cs=>
  simp only[AV.ok,List.all_eq_true]at *;exact fun x hx=>DL (h x hx) hm
 |bo b=>exact DL (v:=.bo b) h hm
 |it k i=>exact DL (v:=.it k i) h hm
 |st l=>exact DL (v:=.st l) h hm
 |ot v=>exact DL (v:=.ot v) h hm
 |sl m' es=>exact DL (v:=.sl m' es) h hm
 |agg cs=>exact DL (v:=.agg cs) h hm
 |ptr l o=>exact DL (v:=.ptr l o) h hm
 |pst e o=>exact DL (v:=.pst e o) h hm
 |fn f a c=>exact DL (v:=.fn f a c) h hm
 |mp l=>exact DL (v:=.mp l) h hm
 |fm es=>exact DL (v:=.fm es) h hm
 |ws l o k c=>exact DL (v:=.ws l o k c) h hm
 |wr l k o=>exact DL (v:=.wr l k o) h hm
 |wx l o k c=>exact DL (v:=.wx l o k c) h hm
 |junk=>exact DL (v:=.junk) h hm
theorem Q8{us:List AV}(h:us.all (AV.ok 0)=true)(ρ:Nat→Nat):us.map (AV.ren ρ)=us:=EM h fun v hv=>DG hv (fun i hi=>absurd hi (Nat.not_lt_zero _))
theorem F6{o:SObj}(h:o.ok 0=true)(ρ:Nat→Nat):o.ren ρ=o:=by
 cases o with
 | cells cs=>
  have:cs.map (AV.r1 ρ)=cs:=EM (p:=AV.o1 0) h fun v hv=>by
   have :=DG (ρ:=ρ) (v:=.agg [v]) (n:=0) (by simpa[AV.ok,AV.o2] using hv) (fun i hi=>absurd hi (Nat.not_lt_zero _))
   simpa[AV.ren,AV.r2] using this
  show SObj.cells _=_
  rw[this]
 | row cs e sz=>
  have:cs.map (AV.r1 ρ)=cs:=EM (p:=AV.o1 0) h fun v hv=>by
   have :=DG (ρ:=ρ) (v:=.agg [v]) (n:=0) (by simpa[AV.ok,AV.o2] using hv) (fun i hi=>absurd hi (Nat.not_lt_zero _))
   simpa[AV.ren,AV.r2] using this
  show SObj.row _ _ _=_
  rw[this]
 | map es=>
  have h:=List.all_eq_true.1 h;show SObj.map _=SObj.map es
  congr 1
  rw[List.map_congr_left (g:=id) fun p hp=>?_,List.map_id]
  have :=h p hp;simp only[Bool.and_eq_true]at this;have h1:=DG (ρ:=ρ) (v:=.tup [p.1]) (n:=0) (by simpa[AV.ok] using this.1) (fun i hi=>absurd hi (Nat.not_lt_zero _))
  have h2:=DG (ρ:=ρ) (v:=.tup [p.2]) (n:=0) (by simpa[AV.ok] using this.2) (fun i hi=>absurd hi (Nat.not_lt_zero _))
  have h1:p.1.r2 ρ=p.1:=by
   have h1:AV.tup [p.1.r2 ρ]=AV.tup [p.1]:=h1;simp only[AV.tup.injEq,List.cons.injEq,and_true]at h1;exact h1
  have h2:p.2.r2 ρ=p.2:=by
   have h2:AV.tup [p.2.r2 ρ]=AV.tup [p.2]:=h2;simp only[AV.tup.injEq,List.cons.injEq,and_true]at h2;exact h2
  rw[h1,h2];rfl
 |loop b D fn es ps asn bdy st=>
  have:es.map (AV.ren ρ)=es:=EM (p:=AV.ok 0) h fun v hv=>DG hv (fun i hi=>absurd hi (Nat.not_lt_zero _))
  show SObj.loop _ _ _ _ _ _ _ _=_
  rw[this]
 |_=>rfl
theorem HZ{o:SObj}(h:o.ok 0=true):o.ok 1=true:=by
 cases o with
 |cells cs=>
  refine List.all_eq_true.2 fun v hv=>?_
  have :=List.all_eq_true.1 h v hv;have :=Ev (v:=.agg [v]) (n:=0) (m:=1) (by simpa[AV.ok,AV.o2] using this) (Nat.zero_le 1)
  simpa[AV.ok,AV.o2] using this
 |row cs e sz=>
  refine List.all_eq_true.2 fun v hv=>?_
  have :=List.all_eq_true.1 h v hv;have :=Ev (v:=.agg [v]) (n:=0) (m:=1) (by simpa[AV.ok,AV.o2] using this) (Nat.zero_le 1)
  simpa[AV.ok,AV.o2] using this
 |map es=>
  refine List.all_eq_true.2 fun p hp=>?_
  have :=List.all_eq_true.1 h p hp;simp only[Bool.and_eq_true]at *;exact⟨DL this.1 (Nat.zero_le 1),DL this.2 (Nat.zero_le 1)⟩
 |loop b D fn es ps asn bdy st=>exact List.all_eq_true.2 fun v hv=>Ev (List.all_eq_true.1 h v hv) (Nat.zero_le 1)
 |_=>rfl
theorem AC.here{args:List AV}{o o':SObj}{v:AV}(h:AC P f (.ptr 0 0::args) [o] v [o'])(l:Nat)(T:Ae)(ho:o.ok 0=true)(ho':o'.ok 0=true)(ha:args.all (AV.ok 0)=true)(hv:v.ok 0=true)(hT:T[l]? = some o):
  AC P f (.ptr l 0::args) T v (T.set l o'):=by
 have ha1:∀u∈args,u.ok 1=true:=fun u hu=>Ev (List.all_eq_true.1 ha u hu) (Nat.zero_le 1)
 have :=AC.at1 h l (by rw[F6 ho];exact hT) (by simp only[List.all_cons,Bool.and_eq_true];exact⟨rfl,List.all_eq_true.2 ha1⟩) (Ev hv (Nat.zero_le 1)) (HZ ho) (HZ ho')
 rw[List.map_cons,Q8 ha,F6 ho',DG hv (fun i hi=>absurd hi (Nat.not_lt_zero _))]at this
 exact this
theorem c1{args gargs:List AV}{T:Ae}{o o':SObj}{v:AV}(l:Nat)(h:AC P f (.ptr 0 0::args) [o] v [o'])(h':Bs P pf rf rest (put e d v) (T.set l o') K)
  (ho:o.ok 0=true:=by rfl)(ho':o'.ok 0=true:=by rfl)(ha:args.all (AV.ok 0)=true:=by rfl)(hv:v.ok 0=true:=by rfl)(hT:T[l]? = some o:=by rfl)(hg:gargs.map AV.wk=.ptr l 0::args:=by rfl):
  Dy (KD P f gargs T) (F1 P pf rf d rest e K):=
 AT (show AC P f (gargs.map AV.wk) T v (T.set l o') by rw[hg];exact h.here l T ho ho' ha hv hT) h'
end
theorem Aq.freeze(N0:Nat){e:Af}{S:Ae}(d l:Nat){es:List (AV×AV)}(hd:e d=.mp l)(hS:S[l]? = some (.map es))(hok:(SObj.map es).ok 0=true):Aq N0 e S (Aw e d (.fm es)) (S.set l .dead):=by
 rintro N w0 g0 a w hn ⟨h1,h2,g,h3,h4,h5⟩
 have hlS:=(List.getElem?_eq_some_iff.1 hS).1
 obtain⟨hb,hown,hG,me,clock,hheap,hsz,hlt,hnd,hrel⟩:=h3.obj l _ hS;have hln:l<g.nid:=by rw[h3.nid];exact hlS
 let g':Gh:={ g with G:=fun x=>if x=g.pl l then 1 else g.G x }
 have hne:∀b,0<g.G b→b≠g.pl l:=fun b h e=>by rw[e,hG]at h;exact absurd h (Nat.lt_irrefl 0)
 have hle:Le w g w g':=⟨fun _ _ _ _ h=>h,fun b o v hb _=>by
  show o<(if b=g.pl l then 1 else g.G b)
  rw[if_neg (hne b (by omega))];exact hb,Nat.le_refl _,fun _ _=>⟨rfl,.inl ⟨rfl,rfl,rfl⟩⟩,fun b me c hg hm=>⟨by
  show 0<(if b=g.pl l then 1 else g.G b)
  rw[if_neg (hne b hg)];exact hg,hm⟩⟩
 have hren:RenOk w g w g'.noid id 0:=⟨hle.noid,fun l hl=>absurd hl (Nat.not_lt_zero _)⟩
 have hall:=List.all_eq_true.1 (show(es.all fun p=>p.1.o2 0&&p.2.o2 0)=true from hok)
 have hko:∀u∈es,u.1.o2 0=true∧u.2.o2 0=true:=fun u hu=>by simpa using hall u hu
 refine⟨h1,h2,g',⟨by rw[List.length_set];exact h3.nid,fun k o hk=>?_,h3.disj,h3.lt,h3.tab.le hle⟩,fun t=>?_,h5.trans ⟨hle,rfl,rfl,rfl,Nat.le_refl _,fun _ _ _=>rfl,fun _ _ hk hb _=>⟨hk,hb⟩,fun b _ hno=>if_neg (fun e=>hno l hln (by rw[e];exact hown))⟩⟩
 ·by_cases hkl:k=l
  ·subst hkl;rw[List.getElem?_set_self hlS]at hk;cases hk;trivial
  ·rw[List.getElem?_set_ne (Ne.symm hkl)]at hk
   have hkn:k<g.nid:=by rw[h3.nid];exact(List.getElem?_eq_some_iff.1 hk).1
   refine(h3.obj k o hk).keep hle rfl rfl rfl rfl rfl (fun b hb'=>?_) (fun _ _=>rfl)
   exact if_neg (fun e=>hkl (h3.disj k l b hkn hln hb' (by rw[e];exact hown)))
 ·by_cases htd:t=d
  ·subst htd
   rw[JI];have ht:=h4 t;rw[hd]at ht;generalize a.tmps.getD t undef=cv at ht;cases ht
   refine .fm _ es (g.pl l) me clock (by show 0<(if g.pl l=g.pl l then 1 else _);rw[if_pos rfl];exact Nat.one_pos) hheap hsz (fun j u x hu hx=>?_) fun j u x hu hx=>?_
   ·have :=(hrel j u x hu hx).1.r2 hren (hko u (List.mem_of_getElem? hu)).1
    rwa[DI (hko u (List.mem_of_getElem? hu)).1 (fun i hi=>absurd hi (Nat.not_lt_zero _))]at this
   ·have :=(hrel j u x hu hx).2.r2 hren (hko u (List.mem_of_getElem? hu)).2
    rwa[DI (hko u (List.mem_of_getElem? hu)).2 (fun i hi=>absurd hi (Nat.not_lt_zero _))]at this
  ·rw[HV e htd];exact(h4 t).le hle
theorem AC.newAt{P:Program}{f:FuncId}{args:List AV}{o:SObj}(h:AC P f args [] (.ptr 0 0) [o])(T:Ae)(ha:args.all (AV.ok 0)=true:=by rfl)(ho:o.ok 0=true:=by rfl):AC P f args T (.ptr T.length 0) (T++[o]):=by
 have :=AC.fresh1 h ha rfl (HZ ho) T;rw[F6 ho]at this;simpa[AV.ren,AV.r2,AV.r1,AV.r0] using this
theorem Ad{P:Program}{rs:List ResultVar}{v:AV}{e:Af}{S:Ae}{vs:List AV}(h:Da P rs e S=some vs:=by rfl)(hk:v.ok 0=true:=by rfl)(hv:Ea vs=v:=by rfl):Dw P rs 0 v [] .ret e S:=Ip h hk hv
theorem GZ{P:Program}{rs:List ResultVar}{v:AV}{e:Af}{S:Ae}{o:SObj}{vs:List AV}(h:Da P rs e S=some vs:=by rfl)(ho:o.ok 1=true:=by rfl)(hS:S[0]? = some (o.ren (Az [0])):=by rfl)(hk:v.ok 1=true:=by rfl)(hv:Ea vs=v.ren (Az [0]):=by rfl):Dw P rs 1 v [o] .ret e S:=
 Nu (κ:=[0]) h (IU 0 ho hS) rfl hk hv
theorem SX{P:Program}{rs:List ResultVar}{v:AV}{e:Af}{S:Ae}{o:SObj}{vs:List AV}(h:Da P rs e S=some vs:=by rfl)(ho:o.ok 1=true:=by rfl)(hS:S[0]? = some (o.ren (Az [0])):=by rfl)(hk:v.ok 1=true:=by rfl)(hv:Ea vs=v.ren (Az [0]):=by rfl):Dw P rs 1 v [o] .norm e S:=
 ⟨e,S,vs,[0],Aq.refl 1 e S,h,IU 0 ho hS,rfl,hk,.inl hv⟩
theorem SV{P:Program}{rs:List ResultVar}{v:AV}{e:Af}{S:Ae}{o:SObj}{vs:List AV}(h:Da P rs e S=some vs:=by rfl)(ho:o.ok 1=true:=by rfl)(hS:S[0]? = some (o.ren (Az [0])):=by rfl)(hk:v.ok 1=true:=by rfl)(hv:(Ea vs).wk=v.ren (Az [0]):=by rfl):Dw P rs 1 v [o] .ret e S:=
 ⟨e,S,vs,[0],Aq.refl 1 e S,h,IU 0 ho hS,rfl,hk,.inr hv⟩
theorem AQ{P:Program}{rs:List ResultVar}{v:AV}{e:Af}{S:Ae}{vs:List AV}(h:Da P rs e S=some vs:=by rfl)(hk:v.ok 0=true:=by rfl)(hv:(Ea vs).wk=v:=by rfl):Dw P rs 0 v [] .ret e S:=Zig h hk hv
end Pe
end
section
namespace Pe
open Tryz
open Go
variable [Tab]
set_option maxRecDepth 100000
def BX(n:Nat):Nat:=if n=0 then 0 else Nat.log2 n+1
theorem Kr{n s:Nat}(h:2^s≤n):BX n=BX (n / 2^s)+s:=by
 have hp:0<2^s:=Nat.pow_pos (by omega)
 have h1:0<n / 2^s:=Nat.div_pos h hp;unfold BX;rw[if_neg (by omega),if_neg (by omega)]
 have e:Nat.log2 n=Nat.log2 (n / 2^s)+s:=by
  have h2:=(Nat.log2_eq_iff (n:=n / 2^s) (k:=Nat.log2 (n / 2^s)) (by omega)).1 rfl
  refine(Nat.log2_eq_iff (by omega)).2 ⟨?_,?_⟩
  ·rw[Nat.pow_add]
   exact(Nat.le_div_iff_mul_le hp).1 h2.1
  ·rw[show Nat.log2 (n / 2^s)+s+1=(Nat.log2 (n / 2^s)+1)+s from by omega,Nat.pow_add]
   exact(Nat.div_lt_iff_lt_mul hp).1 h2.2
 omega
theorem Dc(n:Nat)(b:Int)(s:Nat)(h:b=(s:Int))(h':s≤64):G3 .u64 (n:Int) b=some (.it .u64 ((n / 2^s:Nat):Int)):=by
 subst h;unfold G3;rw[if_pos (by omega)]
 congr 2
 rw[Int.toNat_natCast,show min s IntKind.u64.bits=s from Nat.min_eq_left h']
 rw[Int.fdiv_eq_ediv_of_nonneg _ (by exact Int.le_of_lt (Int.pow_pos (by omega)))]
 norm_cast
theorem IR(x:Nat)(h:x<256):IntKind.u8.wrap (x:Int)=(x:Int):=by
 rw[Qh];simp;omega
theorem Jn(x:Nat):BX x≤x+1:=by
 unfold BX;split
 ·omega
 ·have :=Nat.log2_lt (n:=x) (k:=x) (by assumption)
  have :=this.2 Nat.lt_two_pow_self;omega
theorem IT(L:List UInt8)(hL:∀x,x<256→L[x]? = some (UInt8.ofNat (BX x)))(x:Nat)(h:x<256):(if 0≤(x:Int)then Option.map u8 L[x]? else none)=some (.it .u8 (BX x:Int)):=by
 rw[if_pos (by omega),hL x h]
 have:BX x<256:=by
  have:BX x≤8:=by
   unfold BX;split
   ·omega
   ·have :=(Nat.log2_lt (n:=x) (k:=8) (by assumption)).2 (by omega)
    omega
  omega
 simp only[u8,Option.map_some];congr 2
 simp;omega
set_option maxHeartbeats 2000000 in
theorem R7(n:Nat)(h:n<18446744073709551616):AC prog 190 [.it .u64 n] [] (.it .i64 (BX n)) []:=by
 have s8:∀n:Nat,G3 .u64 (n:Int) 8=some (.it .u64 ((n / 2^8:Nat):Int)):=fun n=>Dc n 8 8 rfl (by omega)
 have s16:∀n:Nat,G3 .u64 (n:Int) 16=some (.it .u64 ((n / 2^16:Nat):Int)):=fun n=>Dc n 16 16 rfl (by omega)
 have s32:∀n:Nat,G3 .u64 (n:Int) 32=some (.it .u64 ((n / 2^32:Nat):Int)):=fun n=>Dc n 32 32 rfl (by omega)
 refine AC.enter [] [] func190 rfl (by decide) (by decide) (Nat.le_of_ble_eq_true rfl) (by kernel_rfl) ?_;refine Al ?_
 refine run ?_;refine J5 (fun h1=>?_) (fun h1=>?_)
 ·have l32:4294967296≤n:=by have :=of_decide_eq_true h1;omega
  have e32:=Kr (n:=n) (s:=32) l32;have m32:n / 2^32<4294967296:=by omega
  refine Aa (A3 @s32 @s16 @s8) ?_;generalize n / 2^32=x at *;refine J5 (fun h1=>?_) (fun h1=>?_)
  ·have l16:65536≤x:=by have :=of_decide_eq_true h1;omega
   have e16:=Kr (n:=x) (s:=16) l16;have m16:x / 2^16<65536:=by omega
   refine Aa (A3 @s32 @s16 @s8) ?_;generalize x / 2^16=y at *;refine J5 (fun h1=>?_) (fun h1=>?_)
   ·have l8:256≤y:=by have :=of_decide_eq_true h1;omega
    have e8:=Kr (n:=y) (s:=8) l8;have m8:y / 2^8<256:=by omega
    refine Aa (A3 @s32 @s16 @s8) ?_;generalize y / 2^8=z at *;have t1:=IR z (by omega)
    have t3:=Jn z;refine Aa @t1 ?_;refine Jo _ (IT _ (by decide +kernel) z (by omega)) ?_
    refine Aa @Int.zero_add ?_;refine Ip (by rfl) (by rfl) ?_
    exact congrArg (AV.it .i64) (by omega)
   ·have l8:y<256:=by have :=of_decide_eq_false h1;omega
    refine run ?_;have t1:=IR y (by omega)
    have t3:=Jn y;refine Aa @t1 ?_;refine Jo _ (IT _ (by decide +kernel) y (by omega)) ?_
    refine Aa @Int.zero_add ?_;refine Ip (by rfl) (by rfl) ?_
    exact congrArg (AV.it .i64) (by omega)
  ·have l16:x<65536:=by have :=of_decide_eq_false h1;omega
   refine run ?_;refine J5 (fun h1=>?_) (fun h1=>?_)
   ·have l8:256≤x:=by have :=of_decide_eq_true h1;omega
    have e8:=Kr (n:=x) (s:=8) l8;have m8:x / 2^8<256:=by omega
    refine Aa (A3 @s32 @s16 @s8) ?_;generalize x / 2^8=z at *;have t1:=IR z (by omega)
    have t3:=Jn z;refine Aa @t1 ?_;refine Jo _ (IT _ (by decide +kernel) z (by omega)) ?_
    refine Aa @Int.zero_add ?_;refine Ip (by rfl) (by rfl) ?_
    exact congrArg (AV.it .i64) (by omega)
   ·have l8:x<256:=by have :=of_decide_eq_false h1;omega
    refine run ?_;have t1:=IR x (by omega)
    have t3:=Jn x;refine Aa @t1 ?_;refine Jo _ (IT _ (by decide +kernel) x (by omega)) ?_
    refine Aa @Int.zero_add ?_;refine Ip (by rfl) (by rfl) ?_
    exact congrArg (AV.it .i64) (by omega)
 ·have l32:n<4294967296:=by have :=of_decide_eq_false h1;omega
  refine run ?_;refine J5 (fun h1=>?_) (fun h1=>?_)
  ·have l16:65536≤n:=by have :=of_decide_eq_true h1;omega
   have e16:=Kr (n:=n) (s:=16) l16;have m16:n / 2^16<65536:=by omega
   refine Aa (A3 @s32 @s16 @s8) ?_;generalize n / 2^16=y at *;refine J5 (fun h1=>?_) (fun h1=>?_)
   ·have l8:256≤y:=by have :=of_decide_eq_true h1;omega
    have e8:=Kr (n:=y) (s:=8) l8;have m8:y / 2^8<256:=by omega
    refine Aa (A3 @s32 @s16 @s8) ?_;generalize y / 2^8=z at *;have t1:=IR z (by omega)
    have t3:=Jn z;refine Aa @t1 ?_;refine Jo _ (IT _ (by decide +kernel) z (by omega)) ?_
    refine Aa @Int.zero_add ?_;refine Ip (by rfl) (by rfl) ?_
    exact congrArg (AV.it .i64) (by omega)
   ·have l8:y<256:=by have :=of_decide_eq_false h1;omega
    refine run ?_;have t1:=IR y (by omega)
    have t3:=Jn y;refine Aa @t1 ?_;refine Jo _ (IT _ (by decide +kernel) y (by omega)) ?_
    refine Aa @Int.zero_add ?_;refine Ip (by rfl) (by rfl) ?_
    exact congrArg (AV.it .i64) (by omega)
  ·have l16:n<65536:=by have :=of_decide_eq_false h1;omega
   refine run ?_;refine J5 (fun h1=>?_) (fun h1=>?_)
   ·have l8:256≤n:=by have :=of_decide_eq_true h1;omega
    have e8:=Kr (n:=n) (s:=8) l8;have m8:n / 2^8<256:=by omega
    refine Aa (A3 @s32 @s16 @s8) ?_;generalize n / 2^8=z at *;have t1:=IR z (by omega)
    have t3:=Jn z;refine Aa @t1 ?_;refine Jo _ (IT _ (by decide +kernel) z (by omega)) ?_
    refine Aa @Int.zero_add ?_;refine Ip (by rfl) (by rfl) ?_
    exact congrArg (AV.it .i64) (by omega)
   ·have l8:n<256:=by have :=of_decide_eq_false h1;omega
    refine run ?_;have t1:=IR n (by omega)
    have t3:=Jn n;refine Aa @t1 ?_;refine Jo _ (IT _ (by decide +kernel) n (by omega)) ?_
    refine Aa @Int.zero_add ?_;refine Ip (by rfl) (by rfl) ?_
    exact congrArg (AV.it .i64) (by omega)
end Pe
end
section
namespace Pe
open Tryz
open Go Go.RowKit Go.WideShapes Go.ChangeShapes
def Q2(W:World)(b:Nat):Nat:=
 match W.heap[b]? with
 |some (.cells cs _ _)=>cs.size
 |_=>0
def g0(W:World):Gh:=⟨Q2 W,fun _=>0,fun _ _=>False,0,fun _=>false,fun _=>0,fun _=>0⟩
theorem W2{W:World}{b o:Nat}{v:Value}(h:W.cell? ⟨b,o,none⟩=some v):o<Q2 W b:=by
 unfold World.cell? at h;unfold Q2;cases hb:W.heap[b]? with
 |none=>simp[hb]at h
 | some ob=>
  cases ob with
  | cells cs t fr=>
   simp only[hb]at h ⊢;by_cases hlt:o<cs.size
   ·exact hlt
   ·have hn:cs[o]? = none:=Array.getElem?_eq_none (by omega)
    simp[hn]at h
  |_=>simp[hb]at h
theorem Oc[Tab]{W:World}(h:∀b i v,Tab.T b i=some v→W.cell? ⟨b,i,none⟩=some v):WF W (g0 W) []:=
 ⟨rfl,fun l o hl=>by simp at hl,fun l l' b hl=>absurd hl (Nat.not_lt_zero _),fun l b hl=>absurd hl (Nat.not_lt_zero _),fun b i v hv=>⟨W2 (h b i v hv),h b i v hv⟩⟩
theorem Zh7{W W':World}{g':Gh}(h:Evo W (g0 W) W' g'):Below W.heap.size W W':=
 ⟨h.os,h.tape,h.output,h.size,fun b hb=>h.old b hb fun l hl=>absurd hl (Nat.not_lt_zero _)⟩
theorem law_run[Tab]{P:Program}{f:FuncId}{args:List AV}{S':Ae}{b:Bool}(h:AC P f args [] (.bo b) S'){W:World}(hT:∀b i v,Tab.T b i=some v→W.cell? ⟨b,i,none⟩=some v){cargs:Array Value}(ha:FZ W (g0 W) args cargs):
  Calls P f cargs W fun e W'=>e=.returned (.bool b)∧Below W.heap.size W W':=
 (h.run W (g0 W) cargs (Oc hT) ha).mono fun e W' ⟨cv,g',he,_,hr,hev⟩=>by
  cases hr
  exact⟨he,Zh7 hev⟩
theorem lrel0{w:World}{g:Gh}:FZ w g [] #[]:=⟨rfl,fun j u v hu=>by simp at hu⟩
theorem lrelL{w:World}{g:Gh}{us:List AV}{vs:List Value}{u:AV}{v:Value}(h:Rel w g u v)(hs:FZ w g us vs.toArray):FZ w g (u::us) (v::vs).toArray:=by
 refine⟨by have :=hs.1;simp at this;simp[this],fun j a b ha hb=>?_⟩
 cases j with
 |zero=>simp at ha hb;subst ha hb;exact h
 |succ j=>exact hs.2 j a b (by simpa using ha) (by simpa using hb)
theorem ZeV(W:World)(g:Gh)(x:ByteArray):Rel W g (.st x.data.toList) (.string x):=by
 have :=Rel.st (w:=W) g x.data.toList;rwa[show(⟨x.data.toList.toArray⟩:ByteArray)=x from by rw[Array.toArray_toList]]at this
theorem ZeX(W:World)(g:Gh):Rel W g (.sl .ro []) (.slice none 0 0):=
 .sl g .ro [] none 0 0 (fun _=>.bool false) (Nat.le_refl _) (Nat.zero_le _) (fun e he=>by simp at he) (fun h=>absurd h (by simp)) (fun j hj=>by simp[Ak]at hj) (fun j u hu=>by simp[Ak]at hu) trivial
end Pe
namespace Pe
open Tryz
open Go Go.RowKit Go.ChangeShapes
def NF(P:Program)(t:TypeId):List Field→Nat→Bool
 |[],o=>o==P.cellsOf t
 |f::r,o=>f.offset==o&&NF P t r (o+P.cellsOf f.type)
def HK(P:Program)(t:TypeId):Bool:=match P.underlying t with
 |some (.struct _)=>true
 |_=>false
def fo(P:Program):Nat→TypeId→Bool
 |0,_=>false
 |n+1,t=>match P.underlying t with
  |some .bool=>P.cellsOf t==1
  |some .string=>P.cellsOf t==1
  |some (.int _)=>P.cellsOf t==1
  |some (.slice e)=>P.cellsOf t==1&&decide (0<P.cellsOf e)&&decide (0<P.bytesOf e)&&fo P n e
  |some (.struct fs)=>NF P t fs.toList 0&&fs.toList.all fun f=>fo P n f.type
  |_=>false
def el(ag:Bool)(us:List AV):AV:=if ag then .agg us else us.headD .junk
def Oz(S:TypeId→List AV→Prop):List Field→List AV→Prop
 |[],us=>us=[]
 |f::r,us=>∃a b,us=a++b∧S f.type a∧Oz S r b
def Dd(P:Program)(B:Nat):Nat→TypeId→List AV→Prop
 |0,_,_=>False
 |n+1,t,us=>match P.underlying t with
  |some .bool=>∃b,us=[.bo b]
  |some .string=>∃l:List UInt8,us=[.st l]∧l.length≤B
  |some (.int k)=>∃i,us=[.it k i]∧(Lit.int k i).wf=true
  |some (.slice e)=>∃es:List (List AV),us=[.sl .ro (es.map (el (HK P e)))]∧(∀x∈es,Dd P B n e x)∧es.length≤B
  |some (.struct fs)=>Oz (Dd P B n) fs.toList us
  |_=>False
section
variable {P:Program}
theorem YC{B n:Nat}{t:TypeId}{us:List AV}(h:Dd P B n t us):(el (HK P t) us).cells=us:=by
 cases n with
 |zero=>cases h
 |succ n=>
  unfold Dd at h;unfold HK;split at h
  ·rename_i hu;rw[hu];obtain⟨b,rfl⟩:=h;rfl
  ·rename_i hu;rw[hu];obtain⟨b,rfl,_⟩:=h;rfl
  ·rename_i hu;rw[hu];obtain⟨b,rfl,_⟩:=h;rfl
  ·rename_i hu;rw[hu];obtain⟨b,rfl,_⟩:=h;rfl
  ·rename_i hu;rw[hu];rfl
  ·cases h
theorem AI.nil(w:World)(g:Gh):AI w g [] #[]:=⟨rfl,by simp,by simp⟩
theorem AI.one{w:World}{g:Gh}{u:AV}{v:Value}(h:Rel w g u v)(h1:v.oneCell'=true):AI w g [u] #[v]:=by
 refine⟨rfl,by simpa using h1,fun j x y hx hy=>?_⟩
 match j with
 |0=>cases hx;cases hy;exact h
 |j+1=>simp at hx
theorem AI.app{w:World}{g:Gh}{us us':List AV}{vs vs':List Value}(h:AI w g us vs.toArray)(h':AI w g us' vs'.toArray):AI w g (us++us') (vs++vs').toArray:=by
 obtain⟨a1,a2,a3⟩:=h;obtain⟨b1,b2,b3⟩:=h';have a1:vs.length=us.length:=by simpa using a1
 have b1:vs'.length=us'.length:=by simpa using b1
 refine⟨by simp[a1,b1],fun v hv=>?_,fun j x y hx hy=>?_⟩
 ·rcases List.mem_append.1 hv with hv|hv
  ·exact a2 v hv
  ·exact b2 v hv
 ·by_cases hj:j<us.length
  ·rw[List.getElem?_append_left hj]at hx
   have hy:vs[j]? = some y:=by rw[←List.getElem?_append_left (l₂:=vs') (by omega)];simpa using hy
   exact a3 j x y hx (by simpa using hy)
  ·rw[List.getElem?_append_right (by omega)]at hx
   have hy:vs'[j-us.length]? = some y:=by
    have:(vs++vs')[j]? = some y:=by simpa using hy
    rw[List.getElem?_append_right (by omega),a1]at this
    exact this
   exact b3 _ x y hx (by simpa using hy)
theorem ZhV(f:List AV→AV)(es:List (List AV))(h:∀x∈es,(f x).cells=x):Ak (es.map f)=es.flatten:=by
 induction es with
 |nil=>rfl
 |cons x es ih=>
  rw[List.map_cons,Ak,List.flatMap_cons,h x (by simp),List.flatten_cons]
  exact congrArg _ (ih fun y hy=>h y (by simp[hy]))
theorem X9{α:Type}{sz:Nat}:∀{es:List (List α)} (_:∀x∈es,x.length=sz) (j:Nat) (u:α),es.flatten[j]? = some u → ∃i k x,es[i]? = some x∧x[k]? = some u∧k<sz∧j=i*sz+k
 |[],_,j,u,h=>by simp at h
 | x::es,hs,j,u,h=>by
  have hx:=hs x (by simp)
  rw[List.flatten_cons]at h;by_cases hj:j<x.length
  ·rw[List.getElem?_append_left hj]at h
   exact⟨0,j,x,rfl,h,by omega,by omega⟩
  ·rw[List.getElem?_append_right (by omega)]at h
   obtain⟨i,k,y,h1,h2,h3,h4⟩:=X9 (fun y hy=>hs y (by simp[hy])) _ u h
   exact⟨i+1,k,y,by simpa using h1,h2,h3,by rw[Nat.succ_mul];omega⟩
theorem X8{α:Type}{sz:Nat}:∀{es:List (List α)} (_:∀x∈es,x.length=sz),es.flatten.length=es.length*sz
 |[],_=>by simp
 |x::es,hs=>by
  rw[List.flatten_cons,List.length_append,X8 (fun y hy=>hs y (by simp[hy])),hs x (by simp),List.length_cons,Nat.succ_mul];omega
theorem Zcf{H:Type}{e:TypeId}{l:List (DataW H)}{d:DataW H}{n:Nat}(hd:d∈l)(hn:n∈d.weights P e):n∈DataW.weightsAll P e l:=by
 induction l with
 |nil=>cases hd
 |cons a l ih=>
  rw[DataW.weightsAll];rcases List.mem_cons.1 hd with rfl|hd
  ·exact List.mem_append_left _ hn
  ·exact List.mem_append_right _ (ih hd)
variable {H:Type} {enc:TypeId×Value→H} {W:World} {base:Nat} {spare:Nat→Bool} {held:Bool}
theorem ZfU(B:Nat):∀(n fuel:Nat) (t:TypeId) (cs:List Value) (x:DataW H×List MemPlace),fo P n t=true→DataW.trod enc P W base spare held fuel t cs=some x→(∀m∈x.1.weights P t,m≤B) →
  ∃us,Dd P B n t us∧AI W (g0 W) us cs.toArray∧cs.length=P.cellsOf t:=by
 intro n;induction n with
 |zero=>intro fuel t cs x h;cases h
 | succ n ih=>
  intro fuel t cs x hf ht hwt;unfold fo at hf;unfold Dd;split at hf<;>rename_i hu
  ·obtain⟨b,rfl,_⟩:=DataW.trod_bool hu ht
   exact⟨[.bo b],⟨b,rfl⟩,AI.one (.bo _ b) rfl,by simpa using Eq.symm (by simpa using hf)⟩
  ·obtain⟨s,rfl,rfl,hs⟩:=DataW.trod_string hu ht
   exact⟨[.st s.data.toList],⟨_,rfl,by simpa[DataW.weights] using hwt s.data.toList.length (by simp[DataW.weights])⟩,AI.one (ZeV W _ s) rfl,by simpa using Eq.symm (by simpa using hf)⟩
  ·obtain⟨i,rfl,_,hi⟩:=DataW.trod_int hu ht
   exact⟨[.it _ i],⟨i,rfl,hi⟩,AI.one (.it _ _ i) rfl,by simpa using Eq.symm (by simpa using hf)⟩
  ·rename_i e
   simp only[Bool.and_eq_true,decide_eq_true_eq,beq_iff_eq]at hf;obtain⟨⟨⟨hc,hpos⟩,hbp⟩,hfe⟩:=hf;rcases Go.Deep.open_slice hu ht with⟨rfl,_⟩|⟨a,len,cap,m,k,D,Pl,rfl,_,hle,hmx,hm,rfl,hx⟩
   ·exact⟨[.sl .ro []],⟨[],rfl,by simp,Nat.zero_le _⟩,AI.one (ZeX W _) rfl,by simpa using hc.symm⟩
   have hlm:len≤m:=by rw[hm];split<;>omega
   obtain⟨U,hU⟩:=Go.Deep.choose_lt (α:=List AV×List Value) (n:=len) (p:=fun i q=>Dd P B n e q.1∧AI W (g0 W) q.1 q.2.toArray∧q.2.length=P.cellsOf e∧W.cells? base (a.add (i*P.cellsOf e)) (P.cellsOf e)=some q.2) (fun i hi=>by
    obtain⟨cs',h1,h2⟩:=hx i (by omega)
    obtain⟨us,h3,h4,h5⟩:=ih _ _ _ _ hfe h2 (fun y hy=>hwt y (by
     simp only[DataW.weights,hu];exact List.mem_cons_of_mem _ (List.mem_append_left _ (Zcf (List.mem_map.2 ⟨i,by simpa using hi,rfl⟩) hy))))
    exact⟨(us,cs'),h3,h4,h5,h1⟩)
   have hes:∀x∈(List.range len).map fun i=>(U i).1,Dd P B n e x:=fun x hx=>by
    obtain⟨i,hi,rfl⟩:=List.mem_map.1 hx;exact(hU i (by simpa using hi)).1
   have hsz:∀x∈(List.range len).map fun i=>(U i).1,x.length=P.cellsOf e:=fun x hx=>by
    obtain⟨i,hi,rfl⟩:=List.mem_map.1 hx;have h:=hU i (by simpa using hi)
    have :=h.2.1.1;rw[←this];simpa using h.2.2.1
   have hlB:len≤B:=by
    have h:=hwt ((((List.range len).map D).length+((List.range (m-len)).map fun j=>D (len+j)).length)*P.bytesOf e) (by simp only[DataW.weights,hu];exact List.mem_cons_self ..)
    rw[List.length_map,List.length_range]at h;exact Nat.le_trans (Nat.le_trans (Nat.le_add_right _ _) (Nat.le_mul_of_pos_right _ hbp)) h
   refine⟨_,⟨(List.range len).map fun i=>(U i).1,rfl,hes,by simpa using hlB⟩,AI.one ?_ rfl,by simpa using hc.symm⟩
   have hfl:Ak (((List.range len).map fun i=>(U i).1).map (el (HK P e)))=((List.range len).map fun i=>(U i).1).flatten:=ZhV _ _ fun x hx=>YC (hes x hx)
   have hln:(((List.range len).map fun i=>(U i).1).map (el (HK P e))).length=len:=by simp
   have hcell:∀j u,((List.range len).map fun i=>(U i).1).flatten[j]? = some u → ∃v,W.cell? (a.add j)=some v∧v.oneCell'=true∧Rel W (g0 W) u v:=by
    intro j u hj;obtain⟨i,k',x,h1,h2,h3,rfl⟩:=X9 hsz j u hj;rw[List.getElem?_map]at h1
    by_cases hi:i<len
    ·rw[List.getElem?_range hi]at h1
     simp only[Option.map_some,Option.some.injEq]at h1;subst h1;obtain⟨g1,g2,g3,g4⟩:=hU i hi;obtain⟨_,c2,c3⟩:=World.cells?_some g4
     have hk:k'<(U i).2.length:=by omega
     have c4:=c3 k' h3;rw[List.getElem?_eq_getElem hk]at c4
     refine⟨(U i).2[k'],?_,g2.2.1 _ (by simp),g2.2.2 k' u _ h2 (by simp[hk])⟩
     rw[←c4];congr 1
     generalize i*P.cellsOf e=y;unfold Addr.add;by_cases hy:y=0<;>by_cases hk:k'=0<;>simp[hy,hk,Nat.add_assoc]
    ·rw[List.getElem?_eq_none (by simp;omega)]at h1
     cases h1
   have hfln:=X8 hsz;rw[List.length_map,List.length_range]at hfln;have hget:∀j,j<((List.range len).map fun i=>(U i).1).flatten.length → ∃u,((List.range len).map fun i=>(U i).1).flatten[j]? = some u:=fun j hj=>⟨_,List.getElem?_eq_getElem hj⟩
   have h:=Rel.sl (w:=W) (g0 W) .ro (((List.range len).map fun i=>(U i).1).map (el (HK P e))) (some a) cap (P.cellsOf e) (fun j=>(W.cell? (a.add j)).getD default) (by rw[hln];exact hle) hmx
    (fun x hx=>by
     obtain⟨y,hy,rfl⟩:=List.mem_map.1 hx;rw[YC (hes y hy),hsz y hy])
    (fun h0=>?_) (fun j hj=>?_) (fun j u hu'=>?_) trivial
   ·rw[hln]at h;exact h
   ·rw[hln]at h0
    obtain⟨b,off,spot⟩:=a;have hp0:0<((List.range len).map fun i=>(U i).1).flatten.length:=by rw[hfln];exact Nat.mul_pos h0 hpos
    have hspot:spot=none:=by
     obtain⟨u,hu'⟩:=hget 0 hp0;obtain⟨v,hv,_⟩:=hcell 0 u hu';simpa[Addr.add] using World.cell?_spot hv
    subst hspot;refine⟨b,off,rfl,fun j hj=>?_⟩
    rw[hfl]at hj;obtain⟨u,hu'⟩:=hget j hj;obtain⟨v,hv,_⟩:=hcell j u hu';rw[Addr.add_lit]at hv;refine⟨W2 hv,?_⟩
    show _=some ((W.cell? (Addr.add ⟨b,off,none⟩ j)).getD default)
    rw[Addr.add_lit,hv];rfl
   ·rw[hfl]at hj
    obtain⟨u,hu'⟩:=hget j hj;obtain⟨v,hv,h1,_⟩:=hcell j u hu';show((W.cell? (a.add j)).getD default).oneCell'=true
    rw[hv];exact h1
   ·rw[hfl]at hu'
    obtain⟨v,hv,_,h2⟩:=hcell j u hu';show Rel W (g0 W) u ((W.cell? (a.add j)).getD default)
    rw[hv];exact h2
  ·rename_i fs
   simp only[Bool.and_eq_true,List.all_eq_true]at hf;obtain⟨xs,k,_,rfl,hl,hlen,hx⟩:=DataW.trod_struct hu ht;suffices H:∀(r:List Field) (o i:Nat),NF P t r o=true→(∀f∈r,fo P n f.type=true)→r=fs.toList.drop i→o≤cs.length →
     ∃us,Oz (Dd P B n) r us∧AI W (g0 W) us (cs.drop o).toArray by
    obtain⟨us,h1,h2⟩:=H fs.toList 0 0 hf.1 hf.2 rfl (Nat.zero_le _);exact⟨us,h1,by simpa using h2,hl⟩
   intro r;induction r with
   |nil=>
    intro o i hc _ _ ho
    have:o=cs.length:=by rw[hl];simpa[NF] using hc
    subst this;exact⟨[],rfl,by rw[List.drop_length];exact AI.nil _ _⟩
   | cons f r ihr=>
    intro o i hc hall hr ho;simp only[NF,Bool.and_eq_true,beq_iff_eq]at hc;have hfi:fs[i]? = some f:=by
     have:(fs.toList.drop i)[0]? = some f:=by rw[←hr];rfl
     simpa using this
    have hil:i<xs.length:=by
     rw[hlen];exact(Array.getElem?_eq_some_iff.1 hfi).1
    have hxi:=hx i f hfi;rw[List.getElem?_eq_getElem hil]at hxi
    obtain⟨us,h1,h2,h3⟩:=ih _ _ _ _ (hall f (by simp)) hxi (fun y hy=>hwt y (by
     simp only[DataW.weights,hu];refine DataW.weights_mem_each (j:=i) (t:=f.type) (d:=(xs[i]).1) ?_ ?_ y hy
     ·rw[List.getElem?_map,Array.getElem?_toList,hfi];rfl
     ·rw[List.getElem?_map,List.getElem?_eq_getElem hil];rfl))
    rw[hc.1]at h2 h3;rw[List.length_take,List.length_drop]at h3;obtain⟨us',h4,h5⟩:=ihr (o+P.cellsOf f.type) (i+1) hc.2 (fun f' hf'=>hall f' (by simp[hf'])) (by rw[←List.drop_drop,←hr];rfl) (by omega)
    refine⟨us++us',⟨us,us',rfl,h1,h4⟩,?_⟩
    have :=AI.app h2 h5;rw[←List.drop_drop,List.take_append_drop]at this;exact this
  ·cases hf
theorem open_cell{B n:Nat}{t:TypeId}{v:Value}{d:DataW H}{p:List MemPlace}(hf:fo P n t=true)(hv:v.cells = #[v])(h:DataW.Trod enc P W base spare held t v d p)(hwt:∀m∈d.weights P t,m≤B):
  ∃us,Dd P B n t us ∧ ∀u,us=[u]→Rel W (g0 W) u v:=by
 obtain⟨fuel,h⟩:=h;rw[hv]at h;obtain⟨us,h1,h2,_⟩:=ZfU B n fuel t _ _ hf h hwt;exact⟨us,h1,fun u hu=>h2.2.2 0 u v (by rw[hu];rfl) rfl⟩
theorem ZdN{B n:Nat}{k:IntKind}{t:TypeId}{us:List AV}(hu:P.underlying t=some (.int k))(h:Dd P B (n+1) t us):∃i,us=[.it k i]∧(Lit.int k i).wf=true:=by unfold Dd at h;rw[hu]at h;exact h
theorem QP{B n:Nat}{t:TypeId}{us:List AV}(hu:P.underlying t=some (.int .i64))(h:Dd P B (n+1) t us):∃i,us=[.it .i64 i] ∧ -9223372036854775808≤i∧i≤9223372036854775807:=by
 obtain⟨i,rfl,w⟩:=ZdN hu h;clear h;have h:(decide (IntKind.i64.min≤i)&&decide (i≤IntKind.i64.max))=true:=w;simp only[Bool.and_eq_true,decide_eq_true_eq]at h;have h1:IntKind.i64.min = -9223372036854775808:=by decide
 have h2:IntKind.i64.max=9223372036854775807:=by decide
 rw[h1,h2]at h;exact⟨i,rfl,h⟩
theorem Va{α:Type}{B n:Nat}{t e:TypeId}{us:List AV}(enc:α→AV)(Q:α→Prop)(hu:P.underlying t=some (.slice e))(h:Dd P B (n+1) t us)(he:∀x,Dd P B n e x → ∃a,el (HK P e) x=enc a∧Q a):
  ∃l:List α,us=[.sl .ro (l.map enc)]∧l.length≤B ∧ ∀a∈l,Q a:=by
 unfold Dd at h;rw[hu]at h;obtain⟨es,rfl,h1,h2⟩:=h;suffices H:∃l:List α,es.map (el (HK P e))=l.map enc∧l.length=es.length ∧ ∀a∈l,Q a by
  obtain⟨l,e1,e2,e3⟩:=H;exact⟨l,by rw[e1],by omega,e3⟩
 clear h2;induction es with
 |nil=>exact⟨[],rfl,rfl,by simp⟩
 | cons x es ih=>
  obtain⟨l,e1,e2,e3⟩:=ih fun y hy=>h1 y (by simp[hy])
  obtain⟨a,e4,e5⟩:=he x (h1 x (by simp))
  exact⟨a::l,by rw[List.map_cons,List.map_cons,e1,e4],by simp[e2],fun b hb=>by
   rcases List.mem_cons.1 hb with rfl|hb
   ·exact e5
   ·exact e3 b hb⟩
theorem ZdM{B n:Nat}{t:TypeId}{fs:Array Field}{us:List AV}(hu:P.underlying t=some (.struct fs))(h:Dd P B (n+1) t us):Oz (Dd P B n) fs.toList us:=by unfold Dd at h;rw[hu]at h;exact h
theorem weights_of{ts:List TypeId}{ds:List (DataW H)}(h:(DataW.weightsEach P ts ds).all (· ≤ reachBytes)=true){j:Nat}{t:TypeId}{d:DataW H}(ht:ts[j]? = some t)(hd:ds[j]? = some d):∀m∈d.weights P t,m≤140737488351232:=fun m hm=>by
 have :=List.all_eq_true.1 h _ (DataW.weights_mem_each ht hd m hm);exact of_decide_eq_true this
end
end Pe
end
section
namespace Co
open Tryz
open Go
abbrev By:=List UInt8
def JX:Nat→Nat→By
 |0,_=>[]
 |f+1,n=>if n<128 then [UInt8.ofNat n]else UInt8.ofNat (128+n % 128)::JX f (n / 128)
theorem WB:∀(f g n:Nat),n<f→n<g→JX f n=JX g n
 |0,_,_,h,_=>by omega
 |_,0,_,_,h=>by omega
 |f+1,g+1,n,h,h'=>by
  unfold JX;by_cases hn:n<128
  ·rw[if_pos hn,if_pos hn]
  ·rw[if_neg hn,if_neg hn,WB f g (n / 128) (by omega) (by omega)]
def num(n:Nat):By:=JX (n+1) n
theorem I5{n:Nat}(h:n<128):num n=[UInt8.ofNat n]:=by unfold num JX;rw[if_pos h]
theorem M2{n:Nat}(h:¬n<128):num n=UInt8.ofNat (128+n % 128)::num (n / 128):=by
 unfold num;rw[JX,if_neg h,WB n (n / 128+1) (n / 128) (by omega) (by omega)]
theorem WA(n:Nat):0<(num n).length:=by
 by_cases h:n<128
 ·rw[I5 h];simp
 ·rw[M2 h];simp
theorem O2(k:Nat):∀n,n<128^(k+1)→(num n).length≤k+1:=by
 induction k with
 |zero=>intro n h;rw[I5 (by omega)];simp
 | succ k ih=>
  intro n h;by_cases h1:n<128
  ·rw[I5 h1];simp
  ·rw[M2 h1,List.length_cons]
   have :=ih (n / 128) (by rw[Nat.div_lt_iff_lt_mul (by omega)];rw[Nat.pow_succ]at h;omega)
   omega
def Ah(n:Int):By:=if n<0 then []else num n.toNat
theorem I6(n:Nat):Ah (n:Int)=num n:=by unfold Ah;rw[if_neg (by omega),Int.toNat_natCast]
theorem AD(n:Int)(h:n<9223372036854775808):(Ah n).length≤9:=by
 unfold Ah;split
 ·simp
 ·exact O2 8 n.toNat (by omega)
def text(s:By):By:=num s.length++s
def list(l:List By):By:=num l.length++(l.map text).flatten
structure R where
 rest:By
 bad:Bool
def H9:By→Nat→Nat→Option (Nat×By)
 |[],_,_=>none
 |d::r,i,n=>if 9≤i then none else if 128≤d.toNat then H9 r (i+1) (n+(d.toNat-128)*2^(7*i))else if d.toNat=0∧0<i then none else some (n+d.toNat*2^(7*i),r)
theorem Rb(d:UInt8)(r:By)(i n:Nat):H9 (d::r) i n=if 9≤i then none else if 128≤d.toNat then H9 r (i+1) (n+(d.toNat-128)*2^(7*i))else if d.toNat=0∧0<i then none else some (n+d.toNat*2^(7*i),r):=rfl
def fail:R:=⟨[],true⟩
def R.num(x:R):Nat×R:=match H9 x.rest 0 0 with
 |some (n,r)=>(n,⟨r,x.bad⟩)
 |none=>(0,fail)
def R.take(x:R)(n:Nat):By×R:=if x.bad=true∨x.rest.length<n then([],fail)else(x.rest.take n,⟨x.rest.drop n,x.bad⟩)
def R.text(x:R):By×R:=x.num.2.take x.num.1
def R.texts:Nat→R→List By×R
 |0,x=>([],x)
 |n+1,x=>if x.bad then([],x)else(x.text.1::(R.texts n x.text.2).1,(R.texts n x.text.2).2)
def R.list(x:R):List By×R:=
 let y:=if x.num.2.rest.length<x.num.1 then fail else x.num.2
 if(y.texts x.num.1).2.bad then([],(y.texts x.num.1).2)else y.texts x.num.1
theorem Ra:∀(l:By) (i n m:Nat) (r:By),i≤9→n<2^(7*i)→H9 l i n=some (m,r)→m<2^63∧r.length<l.length
 |[],_,_,_,_,_,_,h=>by cases h
 | d::l,i,n,m,r,hi,hn,h=>by
  unfold H9 at h;have hd:d.toNat<256:=d.toNat_lt;split at h
  ·cases h
  rename_i h9
  have hp:2^(7*(i+1))=128*2^(7*i):=by rw[show 7*(i+1)=7+7*i from by omega,Nat.pow_add]
  split at h
  ·rename_i h128
   have hc:(d.toNat-128)*2^(7*i)≤127*2^(7*i):=Nat.mul_le_mul_right _ (by omega)
   have :=Ra l (i+1) _ m r (by omega) (by rw[hp];omega) h
   have h2:=this.2;exact⟨this.1,Nat.lt_succ_of_lt h2⟩
  ·rename_i h128
   split at h
   ·cases h
   ·cases h
    have hc:d.toNat*2^(7*i)≤127*2^(7*i):=Nat.mul_le_mul_right _ (by omega)
    have hq:2^(7*(i+1))≤2^63:=Nat.pow_le_pow_right (by omega) (by omega)
    exact⟨by rw[hp]at hq;omega,by simp⟩
theorem Zf2(x:R):x.num.1<2^63:=by
 unfold R.num;split
 ·rename_i n r h;exact(Ra _ 0 0 _ _ (by omega) (by simp) h).1
 ·simp
theorem Zf1(x:R):x.num.2.rest.length≤x.rest.length:=by
 unfold R.num;split
 ·rename_i n r h;have :=(Ra _ 0 0 _ _ (by omega) (by simp) h).2;show r.length≤_;omega
 ·exact Nat.zero_le _
theorem Wj(a c j:Nat)(ha:a<2^j)(h:a+c*2^j<2^63):Go.bits .or .i64 (a:Int) ((c*2^j:Nat):Int)=((a+c*2^j:Nat):Int):=by
 have hor:a|||c*2^j=a+c*2^j:=by
  rw[Nat.or_comm,Nat.mul_comm,←Nat.two_pow_add_eq_or_of_lt ha,Nat.add_comm]
 have e3:(BitVec.ofNat 64 a|||BitVec.ofNat 64 (c*2^j)).toNat=a+c*2^j:=by
  rw[BitVec.toNat_or,BitVec.toNat_ofNat,BitVec.toNat_ofNat,Nat.mod_eq_of_lt (by omega),Nat.mod_eq_of_lt (by omega),hor]
 have e4:Go.bits .or .i64 (a:Int) ((c*2^j:Nat):Int)=IntKind.i64.wrap ((BitVec.ofInt 64 (a:Int)|||BitVec.ofInt 64 ((c*2^j:Nat):Int)).toNat:Int):=rfl;rw[e4,BitVec.ofInt_natCast,BitVec.ofInt_natCast,e3];rw[IntKind.wrap_i64];omega
theorem Wt{n:Nat}(h:n<256):(UInt8.ofNat n).toNat=n:=by rw[UInt8.toNat_ofNat'];omega
theorem VI:∀(f n i acc:Nat) (rest:By),n<f→i≤8→n<2^(63-7*i)→(0<i→0<n)→H9 (num n++rest) i acc=some (acc+n*2^(7*i),rest)
 |0,_,_,_,_,h,_,_,_=>by omega
 | f+1,n,i,acc,rest,hf,hi,hn,h0=>by
  by_cases hs:n<128
  ·rw[I5 hs,List.cons_append,List.nil_append,Rb,Wt (by omega),if_neg (by omega),if_neg (by omega),if_neg (by omega)]
  ·have hi7:i≤7:=by
    refine Nat.le_of_not_lt fun h=>?_
    obtain rfl:i=8:=by omega
    simp at hn
    omega
   rw[M2 hs,List.cons_append,Rb,Wt (by omega),if_neg (by omega),if_pos (by omega)]
   have hp:2^(63-7*i)=128*2^(63-7*(i+1)):=by rw[show 63-7*i=7+(63-7*(i+1))from by omega,Nat.pow_add]
   have hq:2^(7*(i+1))=128*2^(7*i):=by rw[show 7*(i+1)=7+7*i from by omega,Nat.pow_add]
   rw[VI f (n / 128) (i+1) _ rest (by omega) (by omega) (by omega) (fun _=>by omega)]
   congr 2
   rw[hq,show 128+n % 128-128=n % 128 from by omega,Nat.add_assoc]
   congr 1
   have:n=n % 128+n / 128*128:=by omega
   generalize n % 128=a at *;generalize n / 128=b at *;rw[this,Nat.add_mul];congr 1
   rw[Nat.mul_assoc]
theorem Zl7(n:Nat)(rest:By)(b:Bool)(h:n<2^63):R.num ⟨num n++rest,b⟩=(n,⟨rest,b⟩):=by
 unfold R.num;have :=VI (n+1) n 0 0 rest (by omega) (by omega) (by simpa using h) (by simp)
 simp only[Nat.zero_add,Nat.mul_zero,Nat.pow_zero,Nat.mul_one]at this;simp only[this]
theorem Zlo(s rest:By):R.take ⟨s++rest,false⟩ s.length=(s,⟨rest,false⟩):=by
 unfold R.take;rw[if_neg (by simp)]
 simp
end Co
end
end Go.Proofs.YtchpmmjmimaigaaGreatDoor
