import Derived.Test.YtchpmmjmimaigaaGreatDoorKh22
set_option linter.unusedSectionVars false
set_option linter.unusedVariables false
set_option linter.unusedSimpArgs false
namespace Go.Proofs.YtchpmmjmimaigaaGreatDoor
section
namespace Pe
open Tryz
open Go Go.RowKit Co Sg Ac It Sl Tp
set_option maxRecDepth 100000
set_option maxHeartbeats 4000000
theorem ZjA(a:Ac.Act)(h:Ac.right a=true):AC prog 245 [Am a] [] (.st (dg a)) []:=by
 have k1:=ZhR a;have k2:=Ta a h;change AC _ _ _ _ (AL a) _ at k1;generalize dg a=d at *;generalize An a=i at *;refine Ai [314,154] [] func245 ?_;refine run ?_;refine cp k1 ?_;refine run ?_;refine cp k2 ?_;refine run ?_;exact Ad
theorem VH{a:Ac.Act}(h:Ac.right a=true):AC prog 245 [Am a] [] (.st (dg a)) []:=ZjA a h
theorem Zho(a:Ac.Act)(l:List Ac.Act)(d:By):BL (a::l) d=if dg a=d then some 0 else(BL l d).map (· + 1):=rfl
theorem Zjq(c:Chn)(d:By)(hl:c.acts.length≤1000)(hr:Rt c.acts):AC prog 356 [AN c,.st d] [] (.tup [.it .i64 (((BL c.acts d).getD 0:Nat):Int),.bo (BL c.acts d).isSome]) []:=by
 obtain⟨id,acts,keys,prev,gen,fork⟩:=c;simp only at hl hr
 show AC _ _ _ _ (.tup [.it .i64 (((BL acts d).getD 0:Nat):Int),.bo (BL acts d).isSome]) _
 have hsz:=D6 acts;refine Ai [245] [] func356 ?_;refine run ?_;refine Bn (fun m e S=>e 1=.st d∧e 2=.ptr 0 0∧S=[.cells [.st id,Dl acts,.sl .ro (keys.map Cr),.st prev,.it .i64 gen,.bo fork]] ∧ ∃i:Nat,e 6=.it .i64 (i:Int)∧BL acts d=(BL (acts.drop i) d).map (· + i)∧i≤acts.length∧m=acts.length-i) acts.length ⟨Ab,Ab,rfl,0,Ab,by simp,by omega,rfl⟩ ?_
 rintro m e S ⟨s1,s2,rfl,i,s6,he,hi,rfl⟩
 by_cases hlt:i<acts.length
 ·have hg:acts[i]? = some acts[i]:=List.getElem?_eq_getElem hlt
  have hdr:acts.drop i=acts[i]::acts.drop (i+1):=List.drop_eq_getElem_cons hlt;have hlt':(i:Int)<(acts.length:Int):=by omega
  have w1:=Cg (k:=i) (by omega)
  have kd:=VH (hr acts[i] (List.getElem_mem hlt));rw[hdr,Zho]at he;generalize acts[i]=a at *;generalize dg a=y at *;by_cases hy:y=d
  ·have q2:(y==d)=true:=beq_iff_eq.2 hy
   rw[if_pos hy]at he;have he:BL acts d=some i:=by rw[he];simp
   rw[he];refine Aa (A6 @s1 @s2 @s6 @hlt' @hg @hsz) ?_;refine cp kd ?_;refine Aa (A4 @s1 @s2 @s6 @q2) ?_;exact Ad
  ·have q2:(y==d)=false:=beq_eq_false_iff_ne.2 hy
   rw[if_neg hy]at he;have he:BL acts d=(BL (acts.drop (i+1)) d).map (· + (i+1)):=by
    rw[he,Option.map_map];congr 1
    funext n
    show n+1+i=n+(i+1)
    omega
   refine Aa (A6 @s1 @s2 @s6 @hlt' @hg @hsz) ?_;refine cp kd ?_;refine Aa (A5 @s1 @s2 @s6 @q2 @w1) ?_;exact As (acts.length-(i+1)) (by omega) ⟨Ab,Ab,rfl,i+1,Ab,he,by omega,rfl⟩
 ·obtain rfl:i=acts.length:=by omega
  rw[List.drop_length]at he;have he:BL acts d=none:=he;have hlt':¬(acts.length:Int)<(acts.length:Int):=by omega
  rw[he];refine Aa (A4 @s1 @s2 @s6 @hlt') ?_;exact Ad
theorem ZiZ(k:Int):AC prog 357 [.it .i64 k] [] (.bo (JJ k)) []:=by
 refine Ai [] [] func357 ?_;unfold JJ;by_cases h1:k=4
 ·subst h1
  refine run ?_;exact Ad
 have q1:(k==4)=false:=beq_eq_false_iff_ne.2 h1;by_cases h2:k=5
 ·subst h2
  refine run ?_;exact Ad
 have q2:(k==5)=false:=beq_eq_false_iff_ne.2 h2;by_cases h3:k=7
 ·subst h3
  refine run ?_;exact Ad
 have q3:(k==7)=false:=beq_eq_false_iff_ne.2 h3;by_cases h4:k=8
 ·subst h4
  refine run ?_;exact Ad
 have q4:(k==8)=false:=beq_eq_false_iff_ne.2 h4;by_cases h5:k=10
 ·subst h5
  refine run ?_;exact Ad
 have q5:(k==10)=false:=beq_eq_false_iff_ne.2 h5;by_cases h6:k=11
 ·subst h6
  refine run ?_;exact Ad
 have q6:(k==11)=false:=beq_eq_false_iff_ne.2 h6;by_cases h7:k=17
 ·subst h7
  refine run ?_;exact Ad
 have q7:(k==17)=false:=beq_eq_false_iff_ne.2 h7;by_cases h8:k=23
 ·subst h8
  refine run ?_;exact Ad
 have q8:(k==23)=false:=beq_eq_false_iff_ne.2 h8;rw[q1,q2,q3,q4,q5,q6,q7,q8];refine Aa (A8 @q1 @q2 @q3 @q4 @q5 @q6 @q7 @q8) ?_;exact Ad
theorem Zjz(c:Chn)(kind time:Int)(hl:c.acts.length≤1000):AC prog 77 [AN c,.it .i64 kind,.it .i64 time] [] (Am (Ej c kind time)) []:=by
 obtain⟨id,acts,keys,prev,gen,fork⟩:=c;refine Ai [] [] func77 ?_;refine run ?_;exact AQ
theorem Pm:∀(l:List Ac.Act) (d:By) (i:Nat),BL l d=some i→i<l.length
 |[],_,_,h=>by cases h
 | a::l,d,i,h=>by
  unfold BL at h;split at h
  ·cases h;simp
  ·obtain⟨j,hj,rfl⟩:=Option.map_eq_some_iff.1 h
   have :=Pm l d j hj;rw[List.length_cons];omega
theorem Zjh(c:Chn)(a:Ac.Act)(hl:c.acts.length≤1000)(hr:Rt c.acts):AC prog 318 [AN c,Am a] [] (.bo (FO c a)) []:=by
 have k:=Zjq c a.object hl hr;have hsz:=D6 c.acts;by_cases h6:a.kind=6
 ·have q6:(a.kind==6)=true:=beq_iff_eq.2 h6
  have n6:(a.kind !=6)=false:=Gw h6;have ho:FO c a=match BL c.acts a.object with
    |none=>false
    |some i=>JJ (c.acts.getD i act0).kind:=by
   unfold FO;rw[if_neg (fun h=>h.1 h6)]
   cases BL c.acts a.object<;>simp[h6]
  rw[ho];cases hx:BL c.acts a.object with
  |none=>
   rw[hx]at k;obtain⟨id,acts,keys,prev,gen,fork⟩:=c;refine Ai [356,357,328] [] func318 ?_;refine Aa (an @n6 @q6) ?_;refine cp k ?_;refine run ?_;exact Ad
  |some i=>
   rw[hx]at k;change AC _ _ _ _ (.tup [.it .i64 ((i:Nat):Int),.bo true]) _ at k;have hi:=Pm _ _ _ hx;have hg:c.acts[i]? = some c.acts[i]:=List.getElem?_eq_getElem hi
   have hgd:c.acts.getD i act0=c.acts[i]:=by rw[List.getD_eq_getElem?_getD,hg];rfl
   show AC _ _ _ _ (.bo (JJ (c.acts.getD i act0).kind)) _
   rw[hgd];have k2:=ZiZ c.acts[i].kind;obtain⟨id,acts,keys,prev,gen,fork⟩:=c;simp only at hg k2 hsz hi hl ⊢
   generalize acts[i]=b at *;refine Ai [356,357,328] [] func318 ?_;refine Aa (an @n6 @q6) ?_;refine cp k ?_;refine Aa (A4 @n6 @q6 @hg @hsz) ?_;refine cp k2 ?_;refine run ?_;exact Ad
 have q6:(a.kind==6)=false:=beq_eq_false_iff_ne.2 h6;have n6:(a.kind !=6)=true:=Fw h6;by_cases h13:a.kind=13∨a.kind=14
 ·have ho:FO c a=match BL c.acts a.object with
    |none=>false
    |some i=>FM (c.acts.getD i act0).kind:=by
   unfold FO;rw[if_neg (fun h=>by rcases h13 with h13|h13<;>simp[h13]at h)]
   cases BL c.acts a.object<;>simp[h6]
  rw[ho];have q13:(a.kind !=13)=false∨((a.kind !=13)=true∧(a.kind !=14)=false):=by
   rcases h13 with h|h
   ·exact .inl (Gw h)
   ·exact .inr ⟨by rw[h];rfl,Gw h⟩
  cases hx:BL c.acts a.object with
  | none=>
   rw[hx]at k;obtain⟨id,acts,keys,prev,gen,fork⟩:=c;refine Ai [356,357,328] [] func318 ?_;rcases q13 with q13|⟨q13,q14⟩
   ·refine Aa (A3 @n6 @q6 @q13) ?_
    refine cp k ?_;refine run ?_;exact Ad
   ·refine Aa (A4 @n6 @q6 @q13 @q14) ?_
    refine cp k ?_;refine run ?_;exact Ad
  | some i=>
   rw[hx]at k;change AC _ _ _ _ (.tup [.it .i64 ((i:Nat):Int),.bo true]) _ at k;have hi:=Pm _ _ _ hx;have hg:c.acts[i]? = some c.acts[i]:=List.getElem?_eq_getElem hi
   have hgd:c.acts.getD i act0=c.acts[i]:=by rw[List.getD_eq_getElem?_getD,hg];rfl
   show AC _ _ _ _ (.bo (FM (c.acts.getD i act0).kind)) _
   rw[hgd];have k2:=ZhP c.acts[i].kind;obtain⟨id,acts,keys,prev,gen,fork⟩:=c;simp only at hg k2 hsz hi hl ⊢
   generalize acts[i]=b at *;refine Ai [356,357,328] [] func318 ?_;rcases q13 with q13|⟨q13,q14⟩
   ·refine Aa (A3 @n6 @q6 @q13) ?_
    refine cp k ?_;refine Aa (A4 @n6 @q6 @hg @hsz) ?_;refine cp k2 ?_;refine run ?_;exact Ad
   ·refine Aa (A4 @n6 @q6 @q13 @q14) ?_
    refine cp k ?_;refine Aa (A4 @n6 @q6 @hg @hsz) ?_;refine cp k2 ?_;refine run ?_;exact Ad
 ·have q13:(a.kind !=13)=true:=Fw (fun h=>h13 (.inl h))
  have q14:(a.kind !=14)=true:=Fw (fun h=>h13 (.inr h))
  have ho:FO c a=true:=by
   unfold FO;rw[if_pos ⟨h6,fun h=>h13 (.inl h),fun h=>h13 (.inr h)⟩]
  rw[ho];obtain⟨id,acts,keys,prev,gen,fork⟩:=c;refine Ai [356,357,328] [] func318 ?_;refine Aa (A4 @n6 @q6 @q13 @q14) ?_;exact Ad
theorem Zju(c:Chn)(a:Ac.Act)(hl:c.acts.length≤1000)(hr:Rt c.acts)(hz:Sz a):AC prog 250 [AN c,Am a] [] (.bo (Bp c a)) []:=by
 have k1:=Np a hz;have k2:=Zjh c a hl hr;obtain⟨id,acts,keys,prev,gen,fork⟩:=c;simp only at hl hr
 cases h1:Ac.right a with
 |false=>
  rw[h1]at k1;have hf:Bp ⟨id,acts,keys,prev,gen,fork⟩ a=false:=by unfold Bp;rw[h1];simp
  rw[hf];refine Ai [125,318] [] func250 ?_;refine run ?_;refine cp k1 ?_;refine run ?_;exact Ad
 | true=>
  rw[h1]at k1;by_cases h2:a.author=id
  ·have q2:(a.author==id)=true:=beq_iff_eq.2 h2
   by_cases h3:a.seq=acts.length
   ·have q3:(a.seq==(acts.length:Int))=true:=beq_iff_eq.2 h3
    by_cases h4:a.prev=prev
    ·have q4:(a.prev==prev)=true:=beq_iff_eq.2 h4
     have hf:Bp ⟨id,acts,keys,prev,gen,fork⟩ a=(decide ((a.kind=0)↔(acts.length=0))&&FO ⟨id,acts,keys,prev,gen,fork⟩ a):=by unfold Bp;simp[h1,h2,h3,h4]
     by_cases h5:a.kind=0
     ·have q5:(a.kind==0)=true:=beq_iff_eq.2 h5
      by_cases h6:acts.length=0
      ·have q6:((acts.length:Int)==0)=true:=beq_iff_eq.2 (by omega)
       rw[hf,decide_eq_true ⟨fun _=>h6,fun _=>h5⟩,Bool.true_and]
       refine Ai [125,318] [] func250 ?_;refine run ?_;refine cp k1 ?_;refine Aa (A5 @q2 @q3 @q4 @q5 @q6) ?_;refine cp k2 ?_;refine run ?_;exact Ad
      ·have q6:((acts.length:Int)==0)=false:=beq_eq_false_iff_ne.2 (by omega)
       rw[hf,decide_eq_false (fun h=>h6 (h.1 h5)),Bool.false_and]
       refine Ai [125,318] [] func250 ?_;refine run ?_;refine cp k1 ?_;refine Aa (A5 @q2 @q3 @q4 @q5 @q6) ?_;exact Ad
     ·have q5:(a.kind==0)=false:=beq_eq_false_iff_ne.2 h5
      by_cases h6:acts.length=0
      ·have q6:((acts.length:Int)==0)=true:=beq_iff_eq.2 (by omega)
       rw[hf,decide_eq_false (fun h=>h5 (h.2 h6)),Bool.false_and]
       refine Ai [125,318] [] func250 ?_;refine run ?_;refine cp k1 ?_;refine Aa (A5 @q2 @q3 @q4 @q5 @q6) ?_;exact Ad
      ·have q6:((acts.length:Int)==0)=false:=beq_eq_false_iff_ne.2 (by omega)
       rw[hf,decide_eq_true ⟨fun h=>absurd h h5,fun h=>absurd h h6⟩,Bool.true_and]
       refine Ai [125,318] [] func250 ?_;refine run ?_;refine cp k1 ?_;refine Aa (A5 @q2 @q3 @q4 @q5 @q6) ?_;refine cp k2 ?_;refine run ?_;exact Ad
    ·have q4:(a.prev==prev)=false:=beq_eq_false_iff_ne.2 h4
     have hf:Bp ⟨id,acts,keys,prev,gen,fork⟩ a=false:=by unfold Bp;simp[h4]
     rw[hf];refine Ai [125,318] [] func250 ?_;refine run ?_;refine cp k1 ?_;refine Aa (A3 @q2 @q3 @q4) ?_;exact Ad
   ·have q3:(a.seq==(acts.length:Int))=false:=beq_eq_false_iff_ne.2 h3
    have hf:Bp ⟨id,acts,keys,prev,gen,fork⟩ a=false:=by unfold Bp;simp[h3]
    rw[hf];refine Ai [125,318] [] func250 ?_;refine run ?_;refine cp k1 ?_;refine Aa (an @q2 @q3) ?_;exact Ad
  ·have q2:(a.author==id)=false:=beq_eq_false_iff_ne.2 h2
   have hf:Bp ⟨id,acts,keys,prev,gen,fork⟩ a=false:=by unfold Bp;simp[h2]
   rw[hf];refine Ai [125,318] [] func250 ?_;refine run ?_;refine cp k1 ?_;refine Aa @q2 ?_;exact Ad
end Pe
end
section
namespace Pe
open Tryz
open Go Go.RowKit
variable [Tab]
section
variable {P:Program} {w:World} {g:Gh} {S:Ae}
theorem Zgc{u:AV}{v:Value}(h:Rel w g u v)(hk:u.o1 0=true):Rel w g.noid u v:=by
 have hren:RenOk w g w g.noid id 0:=⟨(Le.refl w g).noid,fun l hl=>absurd hl (Nat.not_lt_zero _)⟩
 have :=h.r1 hren hk;rwa[DJ hk (fun i hi=>absurd hi (Nat.not_lt_zero _))]at this
theorem QU{α:Type}(l us:List α)(a j:Nat)(h:a≤l.length):(l.take a++us++l.drop (a+us.length))[j]? = if j<a then l[j]? else if j<a+us.length then us[j-a]? else l[j]? :=by
 have hl:(l.take a).length=a:=by rw[List.length_take];omega
 rw[List.append_assoc];split
 ·rw[List.getElem?_append_left (by omega),List.getElem?_take_of_lt (by assumption)]
 ·rw[List.getElem?_append_right (by omega),hl]
  split
  ·rw[List.getElem?_append_left (by omega)]
  ·rw[List.getElem?_append_right (by omega),List.getElem?_drop]
   congr 1
   omega
theorem WF.rewrite_row(h:WF w g S){l n':Nat}{cs cs':List AV}{cur cur':Array Value}{e sz:Nat}{fr:Nat×Nat}(hS:S[l]? = some (.row cs e sz))(hn:g.wm l≤n')(hcap0:g.cap l≠0)
  (hb:w.heap[g.pl l]? = some (.cells cur e fr))(hroom:n'≤g.cap l)(hcs':cs'.length=n'*sz)(hcur':cur'.size=cur.size)
  (t1:∀(j:Nat) v,cur'[j]? = some v→j<cs'.length→v.oneCell'=true)(t2:∀(j:Nat) u v,cs'[j]? = some u→cur'[j]? = some v→Rel w g u v):
  ∃g',WF (w.setRow (g.pl l) cur') g' (S.set l (.row cs' e sz))∧Evo w g (w.setRow (g.pl l) cur') g'∧l<g'.nid∧g'.buf l=true∧g'.pl l=g.pl l∧g'.cap l=g.cap l∧g'.wm l=n':=by
 have hlS:l<S.length:=(List.getElem?_eq_some_iff.1 hS).1
 have hnid:=h.nid;obtain⟨hbuf,⟨hsz0,hwm⟩,hrow⟩:=h.obj l _ hS;rcases hrow with⟨hrow,_⟩|⟨hown,hG,cur0,fr0,hb0,hfr0,hcs0,hcl,h9,h10⟩
 ·exact absurd hrow hcap0
 rw[hb]at hb0;cases hb0
 let w':=w.setRow (g.pl l) cur'
 let g':Gh:={ g with wm:=fun k=>if k=l then n' else g.wm k }
 have hnew:w'.heap[g.pl l]? = some (.cells cur' e fr):=setRow_heap w (g.pl l) cur _ e fr hb;have hle0:=Le.setRow (w:=w) hG cur';have hle1:Le w' g w' g':=⟨fun _ _ _ _ h=>h,fun _ _ _ h _=>h,Nat.le_refl _,fun k hk=>⟨rfl,by
  by_cases hkl:k=l
  ·subst hkl
   by_cases hnn:g.wm k=n'
   ·exact .inl ⟨rfl,by show(if k=k then _ else _)=_;rw[if_pos rfl,hnn],rfl⟩
   ·refine .inr ⟨hbuf,?_⟩
    show g.wm k<(if k=k then _ else _)
    rw[if_pos rfl];omega
  ·exact .inl ⟨rfl,if_neg hkl,rfl⟩⟩,fun _ _ _ h h'=>⟨h,h'⟩⟩
 have hle:Le w g w' g':=hle0.trans hle1;refine⟨g',h.touch hlS hle rfl (fun k hk _=>⟨rfl,rfl,if_neg hk,rfl,rfl⟩) (fun b hb=>.inl hb) (by simp) (fun b _ _=>rfl) (fun b _ hno=>setRow_other w _ b _ (fun e=>hno (by rw[e];exact hown))) ?_,
  ⟨hle,rfl,rfl,rfl,by simp,fun b _ hno=>setRow_other w _ b _ (fun e=>hno l (by omega) (by rw[e];exact hown)),fun _ _ hk hb _=>⟨hk,hb⟩,fun b _ _=>rfl⟩,by show l<g.nid;omega,hbuf,rfl,rfl,if_pos rfl⟩
 refine⟨hbuf,⟨hsz0,?_⟩,.inr ⟨hown,hG,_,fr,hnew,hfr0,?_,?_,t1,fun j u v hu hv=>(t2 j u v hu hv).le hle⟩⟩
 ·show _=(if l=l then n' else g.wm l)*sz
  rw[if_pos rfl];exact hcs'
 ·show cur'.size=g.cap l*sz
  omega
 ·have:n'*sz≤g.cap l*sz:=Nat.mul_le_mul_right _ hroom
  omega
theorem YW{o:Oper}{e:Af}{t el:TypeId}{x:Operand}{lo hi:Option Operand}{l n a b sz:Nat}{ag:Bool}(ho:o.op=.slice t x lo hi none)(hx:ev e x=.wr l n none)(hs:Bt P t=some (el,sz,ag))(hsz:0<sz)
  (ha:CB (lo.map (ev e)) 0=some a)(hb:CB (hi.map (ev e)) n=some b)(h1:a≤b)(h2:b≤n)(T:Ae):AR P o e T (.wx l (a*sz) (b-a) n) T:=
 Dj fun ρ w g hw hr=>by
  rw[ho]at hr;have hrx:=hr x (by simp[Op.operands])
  have hlo:=NY (w:=w) (g:=g) (e:=e) (ρ:=ρ) (x:=lo) fun y hy=>hr y (by subst hy;simp[Op.operands])
  have hhi:=NY (w:=w) (g:=g) (e:=e) (ρ:=ρ) (x:=hi) fun y hy=>hr y (by subst hy;simp[Op.operands])
  rw[hx]at hrx;obtain⟨hu,hse⟩:=Ep hs;generalize hcx:ρ x=cx at hrx;cases hrx with
  | wr _ _ _ c A hl hbf hwn hc hcm h0 hA=>
   have hbd:=PV (P:=P) (w:=w) (isS:=true) (cap:=c) ha hb hlo hhi h1 (by omega)
   refine⟨.slice (if c=a then A else A.map (·.add (a*sz))) (b-a) (c-a),w,g,?_,hw,?_,Evo.refl w g⟩
   ·unfold execOp
    simp only[ho,hcx];simp[Instr.sliceAt,Instr.slice,run_underlying hu,hbd,run_sizeOf hse]
   ·refine .wx _ l _ _ n _ _ hl hbf hwn (by omega) (by omega) fun hwm=>?_
    obtain⟨hcc,hA⟩:c=g.cap l∧(0<c→A=some ⟨g.pl l,0,none⟩):=by
     rcases hA with hA|hA
     ·omega
     ·exact hA
    refine⟨fun hpos=>?_,fun h00=>?_⟩
    ·rw[if_neg (by omega),hA (by omega)]
     simp[Addr.add_lit]
    ·have ha0:a=0:=by
      rcases Nat.mul_eq_zero.1 h00 with h|h
      ·exact h
      ·omega
     subst ha0;refine⟨by omega,fun hpos=>?_⟩
     rw[if_neg (by omega),hA (by omega)]
     simp[Addr.add_lit]
theorem Zb2{u l o n' m sz el:Nat}{cs:List AV}{cy:Value}(hw:WF w g S)(hS:S[l]? = some (.row cs el sz))(hm:cs.length=m*sz)(ho:o+n'*sz≤m*sz)(hy:Rel w g (.wx l o n' m) cy)(hu:∃e',P.underlying u=some (.slice e')):
  ∃us:List Value,Src P w u cy sz n' us∧AI w g ((cs.drop o).take (n'*sz)) us.toArray:=by
 obtain⟨hbuf,⟨hsz0,hwm⟩,hrow⟩:=hw.obj l _ hS;have hmw:g.wm l=m:=Nat.eq_of_mul_eq_mul_right hsz0 (by omega)
 obtain⟨e',hu⟩:=hu;cases hy with
 | wx _ _ _ _ _ c A hl hb hml hc hcm hx=>
  obtain⟨hA,_⟩:=hx hmw;rcases Nat.eq_zero_or_pos n' with h0|h0
  ·subst h0
   refine⟨[],⟨by simp[Builtin.lenOf],⟨_,hu,by simp⟩,?_,?_,by simp,by simp⟩,by simp,by simp,by simp⟩
   iterate 2
    ·cases A<;>simp[Builtin.firstCells,loadCells,loadCellsFrom]
  ·have hA:=hA h0
   subst hA;have hpos:0<n'*sz:=Nat.mul_pos h0 hsz0;rcases hrow with⟨_,hrow⟩|⟨hown,hG,cur,fr,hb',hfr,hcs,hcl,h9,h10⟩
   ·rw[hrow]at hm
    simp only[List.length_nil]at hm;omega
   ·have hlen:((cur.toList.drop o).take (n'*sz)).length=n'*sz:=by
     rw[List.length_take,List.length_drop,Array.length_toList];omega
    have hget:∀(j:Nat) v,((cur.toList.drop o).take (n'*sz))[j]? = some v→j<n'*sz∧cur[o+j]? = some v:=fun j v hv=>by
     have hj:=(List.getElem?_eq_some_iff.1 hv).1
     have hj:j<n'*sz:=by omega
     refine⟨hj,?_⟩
     rw[List.getElem?_take_of_lt hj,List.getElem?_drop]at hv
     simpa using hv
    have hfc:∀w':World,(∀p,w'.cell? p=w.cell? p)→(Builtin.firstCells sz n' (.slice (some ⟨g.pl l,o,none⟩) n' c)).run P w'=.ok ((cur.toList.drop o).take (n'*sz)).toArray w':=fun w' hw'=>
     run_firstCells_some (P:=P) w' sz n' ⟨g.pl l,o,none⟩ n' c _ hlen (fun j v hv=>by
      rw[Addr.add_lit,hw',cell_of_row w _ (o+j) cur el fr hb'];exact(hget j v hv).2)
    have hone:∀v∈(cur.toList.drop o).take (n'*sz),v.oneCell'=true:=fun v hv=>by
     obtain⟨j,hj⟩:=List.mem_iff_getElem?.1 hv;obtain⟨h1,h2⟩:=hget j v hj;exact h9 (o+j) v h2 (by omega)
    refine⟨_,⟨by simp[Builtin.lenOf],⟨_,hu,by simp⟩,hfc w (fun _=>rfl),hfc w.drew (fun _=>rfl),hlen,hone⟩,?_,fun v hv=>hone v (by simpa using hv),fun j x v hx hv=>?_⟩
    ·rw[List.size_toArray,hlen,List.length_take,List.length_drop]
     omega
    ·have hv':=hget j v (by simpa using hv)
     rw[List.getElem?_take_of_lt hv'.1,List.getElem?_drop]at hx
     exact h10 (o+j) x v hx hv'.2
theorem ZiF{o:Oper}{e:Af}{t u el:TypeId}{x y:Operand}{l off n' m sz by_:Nat}{cs es:List AV}(ho:o.op=.call { callee:=.builtin .append,args:= #[x,y],argTypes:= #[t,u] })(ht:Cz P t=some (el,sz,by_))(hu:(Bt P u).isSome=true)
  (hx:ev e x=.sl .full [])(hy:ev e y=.wx l off n' m)(hS:S[l]? = some (.row cs el sz))(hm:cs.length=m*sz)(hoff:off+n'*sz≤m*sz)(hes:Ak es=(cs.drop off).take (n'*sz))(hn:es.length=n')(hall:AH sz es=true)(hok:(Ak es).all (AV.o1 0)=true)(hfit:Ct n' by_=true):
  AR P o e S (.sl (.own S.length) es) (S++[.buf n' el sz]):=
 Dj fun ρ w g hw hr=>by
  have hrx:=hr x (by rw[ho];simp[Op.operands,Call.operands])
  have hry:=hr y (by rw[ho];simp[Op.operands,Call.operands])
  rw[hx]at hrx;rw[hy]at hry;obtain⟨hut,hsz0,i,z,hi,hz,rfl,rfl,hzs⟩:=Ir ht;obtain⟨⟨e',sz',ag⟩,hsu⟩:=Option.isSome_iff_exists.1 hu;obtain⟨us,hsrc,hus⟩:=Zb2 (P:=P) (u:=u) hw hS hm hoff hry ⟨_,(Ep hsu).1⟩;obtain⟨hf1,hf2⟩:=Je hfit;have hsz:=Em hall;rw[←hes]at hus;have hus':AI w g.noid (Ak es) us.toArray:=⟨hus.1,hus.2.1,fun j u v hu hv=>Zgc (hus.2.2 j u v hu hv) (List.all_eq_true.1 hok u (List.mem_of_getElem? hu))⟩
  generalize hcx:ρ x=cx at hrx;generalize hcy:ρ y=cy at hsrc;have key:∃cv w' g',(Builtin.append_ #[t,u] o.type #[cx,cy]).run P w=.ok cv w'∧WF w' g' (S++[.buf n' el i.size])∧Rel w' g' (.sl (.own S.length) es) cv∧Evo w g w' g':=by
   have hx':=hrx;cases hrx with
   | sl _ _ _ A c sz0 cu hc hcm hsz0' hA h1 hr' hm'=>
    have hcn:c=0:=hm';subst hcn;rcases Nat.eq_zero_or_pos n' with h0|h0
    ·subst h0
     have hes0:es=[]:=List.eq_nil_of_length_eq_zero hn;subst hes0;have hv0:us=[]:=by
      have :=hsrc.size;simp at this
      exact this
     subst hv0;obtain⟨g',h5,h6,h7,h8,h9⟩:=hw.reserve 0 el i.size;refine⟨_,w,g',NR hut hi hsrc hc,h5,?_,h6⟩
     have hr':=hx'.le h6.toLe;cases hr' with
     |sl _ _ _ _ _ sz0 cu hc hcm hsz hA h1 hr hm=>
      refine .sl _ _ [] A 0 sz0 cu hc hcm hsz hA h1 hr ⟨?_,?_,?_,.inr (.inl rfl)⟩
      ·rw[h7,←hw.nid];omega
      ·rw[←hw.nid];exact h8
      ·rw[←hw.nid,h9];exact Nat.le_refl _
    ·subst hn
     have hrun:=Mo (ty:=o.type) hut hi hz hsrc (base:=A) (n:=0) (c:=0) (olds:=[]) (by
      cases A with
      |none=>simp[Builtin.firstCells]
      |some a=>simp[Builtin.firstCells,loadCells,loadCellsFrom]) (by omega) (by omega) (growslice_fits (by omega) (by rw[Nat.zero_add];exact hf1))
     rw[Nat.zero_add]at hrun;have hge:=grownCap_ge w es.length 0 el;have hcm':grownCap w es.length 0 el≤maxLen:=grownCap_le_maxLen w _ 0 el (by simp only[maxLen];omega)
     have hvl:=hsrc.size;obtain⟨g',h5,h6,h7⟩:=(hw.draw (w.drawn+1)).new_buf (es:=es) (cur:=([]:List Value).toArray++us.toArray++Builtin.zeroCells z.cells (grownCap w es.length 0 el-es.length)) (e:=el) (cap:=grownCap w es.length 0 el) (fr:=(0,0)) hsz0 hsz hge hcm' (by
       simp only[Array.size_append,List.size_toArray,List.length_nil,KF _ _ _ hzs,hvl,Nat.zero_add,←Nat.add_mul];congr 1
       omega) (.inl (by simp)) us ⟨hus'.1,hus'.2.1,fun j u v hu hv=>(hus'.2.2 j u v hu hv).le (Evo.draw w g _).toLe.noid⟩ (by
       simp only[Array.toList_append,List.append_assoc,List.nil_append];rw[List.take_left])
     exact⟨_,_,g',hrun,h5,h7,(Evo.draw w g _).trans h6⟩
  obtain⟨cv,w',g',h1,h2,h3,h4⟩:=key;refine⟨cv,w',g',?_,h2,h3,h4⟩
  unfold execOp;simp only[ho];show Sem.run P (do let d ←resolve ρ _ o.type;invoke d.target d.args) w=_
  simp only[resolve,Sem.run_bind,Sem.run_pure,Result.andThen_ok,invoke,builtin,List.map_toArray,List.map_cons,List.map_nil,hcx,hcy,h1]
theorem ZiJ{o:Oper}{e:Af}{t u el:TypeId}{x y:Operand}{l k m sz by_:Nat}{cs ys:List AV}(ho:o.op=.call { callee:=.builtin .append,args:= #[x,y],argTypes:= #[t,u] })(ht:Cz P t=some (el,sz,by_))
  (hx:ev e x=.wx l 0 k m)(hs:Fg P u (ev e y)=some ys)(hall:AH sz ys=true)(hS:S[l]? = some (.row cs el sz))(hm:cs.length=m*sz)(hk:k+ys.length≤m)(h0:0<ys.length):
  AR P o e S (.wx l 0 (k+ys.length) m) (S.set l (.row (Bc cs (k*sz) (Ak ys)) el sz)):=
 Dj fun ρ w g hw hr=>by
  have hrx:=hr x (by rw[ho];simp[Op.operands,Call.operands])
  have hry:=hr y (by rw[ho];simp[Op.operands,Call.operands])
  rw[hx]at hrx;obtain⟨hut,hsz0,i,z,hi,hz,rfl,rfl,hzs⟩:=Ir ht;obtain⟨us,hsrc,hus⟩:=LA hs hry hall;have hus:=hus.ofNoid;have hfy:=Ft (Em hall);obtain⟨hbuf,⟨_,hwm⟩,hrow⟩:=hw.obj l _ hS;have hmw:g.wm l=m:=Nat.eq_of_mul_eq_mul_right hsz0 (by omega)
  have hmul:(k+ys.length)*i.size=k*i.size+ys.length*i.size:=Nat.add_mul _ _ _;have hle:(k+ys.length)*i.size≤m*i.size:=Nat.mul_le_mul_right _ hk;have hul:=hsrc.size;generalize hcx:ρ x=cx at hrx;have key:∃cv w' g',(Builtin.append_ #[t,u] o.type #[cx,ρ y]).run P w=.ok cv w'∧WF w' g' (S.set l (.row (Bc cs (k*i.size) (Ak ys)) el i.size))∧Rel w' g' (.wx l 0 (k+ys.length) m) cv∧Evo w g w' g':=by
   cases hrx with
   | wx _ _ _ _ _ c A hl hb hml hc hcm hxx=>
    obtain⟨hA0,hA1⟩:=hxx hmw;obtain⟨rfl,hA⟩:=hA1 rfl;rcases hrow with⟨_,hrow⟩|⟨hown,hG,cur,fr,hb',hfr,hcs,hcl,h9,h10⟩
    ·subst hrow
     simp only[List.length_nil]at hm
     have:0<(k+ys.length)*i.size:=Nat.mul_pos (by omega) hsz0
     omega
    ·have hmc:m≤g.cap l:=by
      refine Nat.le_of_mul_le_mul_right ?_ hsz0
      omega
     have hA:=hA (by omega)
     subst hA;have hrun:=P0 (ty:=o.type) hut hi hsrc hb' (.inl hfr) (n:=k) (by omega:k+ys.length≤g.cap l) (by rw[hul];omega)
     have hal:(Bc cs (k*i.size) (Ak ys)).length=m*i.size:=by
      unfold Bc;simp only[List.length_append,List.length_take,List.length_drop];omega
     have hcurl:cur.toList.length=g.cap l*i.size:=by simpa using hcs
     have hcap:m*i.size≤g.cap l*i.size:=Nat.mul_le_mul_right _ hmc;have hat:∀(j:Nat) v,(cur.toList.take (k*i.size)++us++cur.toList.drop (k*i.size+us.length)).toArray[j]? = some v→((j<k*i.size∨k*i.size+us.length≤j)∧cur[j]? = some v)∨(k*i.size≤j∧j<k*i.size+us.length∧us[j-k*i.size]? = some v):=by
      intro j v hv;simp only[List.getElem?_toArray]at hv
      rw[QU _ _ _ _ (by omega)]at hv
      split at hv
      ·exact .inl ⟨.inl (by assumption),by simpa using hv⟩
      ·split at hv
       ·exact .inr ⟨by omega,by assumption,hv⟩
       ·exact .inl ⟨.inr (by omega),by simpa using hv⟩
     obtain⟨g',h5,h6,h7,h8,h11,h12,h13⟩:=hw.rewrite_row (n':=m) (cs':=Bc cs (k*i.size) (Ak ys)) (cur':=(cur.toList.take (k*i.size)++us++cur.toList.drop (k*i.size+us.length)).toArray) hS (by omega) (by omega) hb' hmc hal (by
       simp only[List.size_toArray,List.length_append,List.length_take,List.length_drop,Array.length_toList];rw[Array.length_toList]at hcurl;omega) (fun j v hv hj=>by
       rcases hat j v hv with⟨_,h2⟩|⟨_,_,h2⟩
       ·exact h9 j v h2 (by omega)
       ·exact hus.2.1 v (by simpa using List.mem_of_getElem? h2)) (fun j u' v hu hv=>by
       unfold Bc at hu;rw[QU _ _ _ _ (by omega)]at hu
       rcases hat j v hv with⟨h1,h2⟩|⟨h1,h1',h2⟩
       ·refine h10 j u' v ?_ h2
        rcases h1 with h1|h1
        ·rw[if_pos h1]at hu;exact hu
        ·rw[if_neg (by omega),if_neg (by omega)]at hu;exact hu
       ·rw[if_neg (by omega),if_pos (by omega)]at hu
        exact hus.2.2 _ u' v hu (by simpa using h2))
     exact⟨_,_,g',hrun,h5,.wx _ l 0 _ m _ _ h7 h8 (by omega) (by omega) hcm (fun _=>⟨fun _=>by rw[h11],fun _=>⟨h12.symm,fun _=>by rw[h11]⟩⟩),h6⟩
  obtain⟨cv,w',g',h1,h2,h3,h4⟩:=key;refine⟨cv,w',g',?_,h2,h3,h4⟩
  unfold execOp;simp only[ho];show Sem.run P (do let d ←resolve ρ _ o.type;invoke d.target d.args) w=_
  simp only[resolve,Sem.run_bind,Sem.run_pure,Result.andThen_ok,invoke,builtin,List.map_toArray,List.map_cons,List.map_nil,hcx,h1]
theorem YZ{o:Oper}{e:Af}{t u el:TypeId}{x y:Operand}{l k m sz by_:Nat}{cs ys:List AV}(ho:o.op=.call { callee:=.builtin .append,args:= #[x,y],argTypes:= #[t,u] })(ht:Cz P t=some (el,sz,by_))
  (hx:ev e x=.wx l 0 k m)(hs:Fg P u (ev e y)=some ys)(hall:AH sz ys=true)(hS:S[l]? = some (.row cs el sz))(hm:cs.length=m*sz)(hkm:k≤m)(hk:m<k+ys.length)(hfit:Ct (k+ys.length) by_=true):
  AR P o e S (.wr l (k+ys.length) none) (S.set l (.row (cs.take (k*sz)++Ak ys) el sz)):=
 Dj fun ρ w g hw hr=>by
  have hrx:=hr x (by rw[ho];simp[Op.operands,Call.operands])
  have hry:=hr y (by rw[ho];simp[Op.operands,Call.operands])
  rw[hx]at hrx;obtain⟨hut,hsz0,i,z,hi,hz,rfl,rfl,hzs⟩:=Ir ht;obtain⟨us,hsrc,hus⟩:=LA hs hry hall;have hus:=hus.ofNoid;have hfy:=Ft (Em hall);obtain⟨hf1,hf2⟩:=Je hfit;obtain⟨hbuf,⟨_,hwm⟩,hrow⟩:=hw.obj l _ hS;have hmw:g.wm l=m:=Nat.eq_of_mul_eq_mul_right hsz0 (by omega)
  have hmul:(k+ys.length)*i.size=k*i.size+ys.length*i.size:=Nat.add_mul _ _ _;have hle:k*i.size≤m*i.size:=Nat.mul_le_mul_right _ hkm;have hul:=hsrc.size;have hcl':(cs.take (k*i.size)++Ak ys).length=(k+ys.length)*i.size:=by
   rw[List.length_append,List.length_take,hfy];omega
  generalize hcx:ρ x=cx at hrx;have key:∃cv w' g',(Builtin.append_ #[t,u] o.type #[cx,ρ y]).run P w=.ok cv w'∧WF w' g' (S.set l (.row (cs.take (k*i.size)++Ak ys) el i.size))∧Rel w' g' (.wr l (k+ys.length) none) cv∧Evo w g w' g':=by
   cases hrx with
   | wx _ _ _ _ _ c A hl hb hml hc hcm hxx=>
    obtain⟨hA0,hA1⟩:=hxx hmw;obtain⟨rfl,hA⟩:=hA1 rfl;by_cases hroom:k+ys.length≤g.cap l
    ·have hA:=hA (by omega)
     subst hA;rcases hrow with⟨hrow,_⟩|⟨hown,hG,cur,fr,hb',hfr,hcs,hcl,h9,h10⟩
     ·omega
     ·have hlr:(k+ys.length)*i.size≤g.cap l*i.size:=Nat.mul_le_mul_right _ hroom
      have hcurl:cur.toList.length=g.cap l*i.size:=by simpa using hcs
      have hrun:=P0 (ty:=o.type) hut hi hsrc hb' (.inl hfr) (n:=k) hroom (by rw[hul];omega)
      have hat:∀(j:Nat) v,(cur.toList.take (k*i.size)++us++cur.toList.drop (k*i.size+us.length)).toArray[j]? = some v→j<(k+ys.length)*i.size→(j<k*i.size∧cur[j]? = some v)∨(k*i.size≤j∧us[j-k*i.size]? = some v):=by
       intro j v hv hj;simp only[List.getElem?_toArray]at hv
       rw[QU _ _ _ _ (by omega)]at hv
       split at hv
       ·exact .inl ⟨by assumption,by simpa using hv⟩
       ·rw[if_pos (by omega)]at hv
        exact .inr ⟨by omega,hv⟩
      obtain⟨g',h5,h6,h7,h8,h11,h12,h13⟩:=hw.rewrite_row (n':=k+ys.length) (cs':=cs.take (k*i.size)++Ak ys) (cur':=(cur.toList.take (k*i.size)++us++cur.toList.drop (k*i.size+us.length)).toArray) hS (by omega) (by omega) hb' hroom hcl' (by
        simp only[List.size_toArray,List.length_append,List.length_take,List.length_drop,Array.length_toList];rw[Array.length_toList]at hcurl;omega) (fun j v hv hj=>by
        rcases hat j v hv (by omega)with⟨h1,h2⟩|⟨_,h2⟩
        ·exact h9 j v h2 (by omega)
        ·exact hus.2.1 v (by simpa using List.mem_of_getElem? h2)) (fun j u' v hu hv=>by
        have hj:=(List.getElem?_eq_some_iff.1 hu).1
        have htl:(cs.take (k*i.size)).length=k*i.size:=by rw[List.length_take];omega
        rcases hat j v hv (by omega)with⟨h1,h2⟩|⟨h1,h2⟩
        ·rw[List.getElem?_append_left (by omega),List.getElem?_take_of_lt h1]at hu
         exact h10 j u' v hu h2
        ·rw[List.getElem?_append_right (by omega),htl]at hu
         exact hus.2.2 _ u' v hu (by simpa using h2))
      exact⟨_,_,g',hrun,h5,.wr _ l _ _ _ h7 h8 (by omega) (by omega) hcm (fun _=>⟨_,_,rfl⟩) (.inr ⟨h12.symm,fun _=>by rw[h11]⟩),h6⟩
    ·obtain⟨olds,ho1,ho2,ho3⟩:∃olds:List Value,(∀w':World,(∀p,w'.cell? p=w.cell? p)→(Builtin.firstCells i.size k (.slice A k (g.cap l))).run P w'=.ok olds.toArray w')∧AI w g (cs.take (k*i.size)) olds.toArray∧olds.length=k*i.size:=by
      rcases Nat.eq_zero_or_pos k with hn0|hn0
      ·subst hn0
       refine⟨[],fun w' _=>?_,?_,by simp⟩
       ·cases A with
        |none=>simp[Builtin.firstCells]
        |some a=>simp[Builtin.firstCells,loadCells,loadCellsFrom]
       ·rw[Nat.zero_mul,List.take_zero]
        exact⟨rfl,by simp,by simp⟩
      ·have hA:=hA0 hn0
       subst hA;have hpos:0<k*i.size:=Nat.mul_pos hn0 hsz0;rcases hrow with⟨_,hrow⟩|⟨hown,hG,cur,fr,hb',hfr,hcs,hcl,h9,h10⟩
       ·subst hrow
        simp only[List.length_nil]at hm;omega
       ·have hlen:(cur.toList.take (k*i.size)).length=k*i.size:=by rw[List.length_take,Array.length_toList];omega
        have hget:∀(j:Nat) v,(cur.toList.take (k*i.size))[j]? = some v→j<k*i.size∧cur[j]? = some v:=fun j v hv=>by
         have hj:=(List.getElem?_eq_some_iff.1 hv).1
         rw[List.getElem?_take_of_lt (by omega)]at hv
         exact⟨by omega,by simpa using hv⟩
        refine⟨cur.toList.take (k*i.size),fun w' hw'=>?_,⟨by rw[List.size_toArray,hlen,List.length_take];omega,fun v hv=>?_,fun j u v hu hv=>?_⟩,hlen⟩
        ·exact run_firstCells_some (P:=P) w' i.size k ⟨g.pl l,0,none⟩ k (g.cap l) (cur.toList.take (k*i.size)) hlen (fun j v hv=>by
          rw[Addr.add_lit,hw',Nat.zero_add,cell_of_row w _ j cur el fr hb'];exact(hget j v hv).2)
        ·obtain⟨j,hj⟩:=List.mem_iff_getElem?.1 hv
         have :=hget j v (by simpa using hj)
         exact h9 j v this.2 (by omega)
        ·have hv':=hget j v (by simpa using hv)
         rw[List.getElem?_take_of_lt hv'.1]at hu
         exact h10 j u v hu hv'.2
     have hrun:=Mo (ty:=o.type) hut hi hz hsrc (ho1 w.drew (fun _=>rfl)) (by omega) (by omega) (growslice_fits (by omega) hf1)
     have hge:=grownCap_ge w (k+ys.length) (g.cap l) el;have hcm':grownCap w (k+ys.length) (g.cap l) el≤maxLen:=grownCap_le_maxLen w _ (g.cap l) el (by simp only[maxLen];omega)
     obtain⟨g',h5,h6,h7⟩:=(hw.draw (w.drawn+1)).regrow_row (n:=k+ys.length) (cs':=cs.take (k*i.size)++Ak ys) (cur:=olds.toArray++us.toArray++Builtin.zeroCells z.cells (grownCap w (k+ys.length) (g.cap l) el-(k+ys.length))) (cap:=grownCap w (k+ys.length) (g.cap l) el) (fr:=(0,0)) hS (by omega) hcl' hge hcm' (by
       simp only[Array.size_append,List.size_toArray,KF _ _ _ hzs,ho3,hul,←Nat.add_mul];congr 1
       omega) (by simp) (olds++us) ((ZC ho2 hus).le (Evo.draw w g _).toLe) (by
       simp only[Array.toList_append,List.append_assoc];rw[←List.append_assoc,List.take_left])
     exact⟨_,_,g',hrun,h5,h7,(Evo.draw w g _).trans h6⟩
  obtain⟨cv,w',g',h1,h2,h3,h4⟩:=key;refine⟨cv,w',g',?_,h2,h3,h4⟩
  unfold execOp;simp only[ho];show Sem.run P (do let d ←resolve ρ _ o.type;invoke d.target d.args) w=_
  simp only[resolve,Sem.run_bind,Sem.run_pure,Result.andThen_ok,invoke,builtin,List.map_toArray,List.map_cons,List.map_nil,hcx,h1]
theorem Aq.reserveRowT(N0:Nat){e:Af}{S:Ae}(d:Nat)(hd:e d=.sl .full [])(ty:TypeId){sz:Nat}(hsz:0<sz):Aq N0 e S (Aw e d (.wr S.length 0 none)) (S++[.row [] ty sz]):=by
 rintro N w0 g0 a w hn ⟨h1,h2,g,h3,h4,h5⟩
 obtain⟨g',h6,h7,h8⟩:=h3.reserve_row ty hsz;refine⟨h1,h2,g',h6,fun t=>?_,h5.trans h7⟩
 by_cases ht:t=d
 ·subst ht
  rw[JI];have hr:=h4 t;rw[hd]at hr;generalize a.tmps.getD t undef=cv at hr;cases hr with
  |sl _ _ _ A c sz cu hc hcm hsz hA ho hr hm=>
   obtain rfl:c=0:=hm;exact h8 A
 ·rw[HV _ ht]
  exact(h4 t).le h7.toLe
end
end Pe
end
section
namespace Pe
open Tryz
open Go Go.RowKit Co Sg Ac It Sl Tp
set_option maxRecDepth 100000
set_option maxHeartbeats 4000000
abbrev Bf(l:List Ac.Act):List AV:=Ak (l.map AL)
theorem LZ(l:List Ac.Act):(Bf l).length=l.length*49:=SI AL 49 (fun _=>rfl) l
theorem Xd(l:List Ac.Act)(k:Nat):(Bf l).take (k*49)=Bf (l.take k):=by
 show List.take _ (Ak _)=Ak _
 rw[List.map_take,Ya (Em (If l))]
theorem Xe(l:List Ac.Act)(k:Nat):(Bf l).drop (k*49)=Bf (l.drop k):=by
 show List.drop _ (Ak _)=Ak _
 rw[List.map_drop,SJ (Em (If l))]
theorem Nf(a b:List Ac.Act):Bf (a++b)=Bf a++Bf b:=by
 show Ak _=_
 rw[List.map_append,J9]
theorem ZgS(a:Ac.Act):Bf [a]=L2 (An a):=by
 show Ak [AL a]=_
 simp[Ak,AV.cells]
theorem ZgT(l:List Ac.Act)(k:Nat)(x:Ac.Act)(hx:l[k]? = some x):((Bf l).drop (k*49)).take 49=L2 (An x):=by
 have hk:=(List.getElem?_eq_some_iff.1 hx).1
 have h1:l.drop k=[x]++l.drop (k+1):=by rw[List.drop_eq_getElem_cons hk,(List.getElem?_eq_some_iff.1 hx).2];rfl
 have h49:(L2 (An x)).length=49:=rfl;rw[Xe,h1,Nf,ZgS,List.take_append_of_le_length (by omega),List.take_of_length_le (by omega)]
theorem ZgR(l:List Ac.Act)(k:Nat)(x:Ac.Act)(hk:k<l.length):(Bc (Bf l) (k*49) (Bf [x])).take ((k+1)*49)++Bf (l.drop k)=Bf (l.take k++x::l.drop k):=by
 have h49:(Bf [x]).length=49:=by rw[LZ];rfl
 have hl:=LZ l;have ht:((Bf l).take (k*49)++Bf [x]).length=(k+1)*49:=by rw[List.length_append,List.length_take,h49,hl];omega
 have h2:l.take k++x::l.drop k=(l.take k++[x])++l.drop k:=by simp
 unfold Bc;rw[List.take_append_of_le_length (by omega),List.take_of_length_le (by omega),h2,Nf,Nf,Xd]
theorem ZhN{a:Ac.Act}(h:Ac.right a=true):AC prog 311 [AL a] [] (.bo true) []:=X1 h
theorem ZgQ(l:List Ac.Act)(hl:l.length≤1000)(hr:KA l):AC prog 243 [.sl .ro (l.map AL),.it .i64 0] [] (.sl .ro ((Eo [] l).map AL)) []:=by
 have hsz:=If l;have hszS:=If (Eo [] l);have hokS:(Bf (Eo [] l)).all (AV.o1 0)=true:=Pt _ (fun _=>rfl) _
 refine AC.hw 65 func243 rfl (by decide) (Nat.le_of_ble_eq_true rfl) rfl ?_
 refine HW.seq (HW.aw [] [] (by decide) (by kernel_rfl) ?_)
 refine Al ?_
 refine run ?_;refine HW.seq (HW.aw [] [] (by decide) (by kernel_rfl) ?_)
 refine Al ?_
 refine run ?_;refine HW.seq (HW.seq (HW.aw [] [] (by decide) (by kernel_rfl) ?_))
 refine Al ?_
 refine run ?_;refine HW.block (HW.loop (fun m e S=>e 0=.sl .ro (l.map AL)∧e 1=.it .i64 0 ∧ ∃(i:Nat) (out:List Ac.Act) (T:Ae),e 6=.it .i64 (i:Int)∧e 5=.wr 0 out.length none∧S=.row (Bf out) 61 49::T∧out.length=i∧Eo [] l=Eo out (l.drop i)∧(∀x∈out,Ac.right x=true)∧i≤l.length∧m=l.length-i) l.length _ _ (Aq.reserveRowT 0 5 (by rfl) 61 (sz:=49) (by decide))
  ⟨Ab,Ab,0,[],[],Ab,Ab,rfl,rfl,rfl,by simp,by omega,rfl⟩ ?_)
 rintro m e S ⟨s0,s1,i,out,T,s6,s5,rfl,hol,hso,hro,hi,rfl⟩
 by_cases hlt:i<l.length
 rotate_left
 ·obtain rfl:i=l.length:=by omega
  rw[List.drop_length]at hso;have hso:Eo [] l=out:=hso;have hlt':¬(l.length:Int)<(l.length:Int):=by omega
  refine HW.seq (HW.aw [] [] (by decide) (by kernel_rfl) ?_)
  refine Al ?_
  refine Aa (A5 @s0 @s1 @s6 @s5 @hlt') ?_;refine HW.aw [] [] (by decide) (by kernel_rfl) ?_
  refine Al ?_
  refine Aa (A4 @s0 @s1 @s6 @s5) ?_;rw[hso]at hszS hokS ⊢;exact Zih 4 0 rfl (by rw[List.length_map]) hszS hokS (by rfl) (by rfl) (by rfl)
 have hg:l[i]? = some l[i]:=List.getElem?_eq_getElem hlt
 have hdr:l.drop i=l[i]::l.drop (i+1):=List.drop_eq_getElem_cons hlt;have hlt':(i:Int)<(l.length:Int):=by omega
 have w1:=Cg (k:=i) (by omega)
 have hra:=hr l[i] (List.getElem_mem hlt);rw[hdr,Eo]at hso;generalize l[i]=a at *;have kr:=ZhN hra;have kq:((An a).kind !=0)=false:=rfl;refine HW.seq (HW.aw [] [] (by decide) (by kernel_rfl) ?_)
 refine Al ?_
 refine Aa (A5 @s0 @s1 @s6 @s5 @hlt') ?_;refine HW.seq (HW.block (HW.seq (HW.aw [311] [] (by decide) (by kernel_rfl) ?_)))
 refine Al ?_
 refine Aa (A8 @s0 @s1 @s6 @s5 @hlt' @hg @hsz @kq) ?_;refine cp kr ?_;refine Aa (A4 @s0 @s1 @s6 @s5) ?_;refine HW.seq (HW.aw [] [] (by decide) (by kernel_rfl) ?_)
 refine Al ?_
 refine Aa (A4 @s0 @s1 @s6 @s5) ?_;have hF:=LZ out;have hat:=fun j x hx=>ZgT out j x hx
 have hlow:∀(k:Nat),Fj out a (k+1)=if NS (out.getD k act0) a=true then Fj out a k else k+1:=fun _=>rfl
 have hia:=hra;have kaf:=fun(x:Ac.Act) (hx:Ac.right x=true)=>Zg0 x a hx hia
 refine HW.cut (fun e S=>e 0=.sl .ro (l.map AL)∧e 1=.it .i64 0∧e 6=.it .i64 (i:Int)∧e 5=.wr 0 out.length none∧e 7=.it .i64 ((Fj out a out.length:Nat):Int) ∧ ∃T,S=.row (Bf out) 61 49::T) ?_ ?_
 ·intro K hK
  generalize hFe:Bf out=F at *;refine HW.aw [312] [] (by decide) (by kernel_rfl) ?_
  refine Al ?_
  refine Aa (A4 @s0 @s1 @s6 @s5) ?_;refine Bn (fun m e S=>e 0=.sl .ro (l.map AL)∧e 1=.it .i64 0∧e 6=.it .i64 (i:Int)∧e 5=.wr 0 out.length none∧S=.row F 61 49::T ∧ ∃k:Nat,e 7=.it .i64 (k:Int)∧k≤out.length∧Fj out a out.length=Fj out a k∧m=k) out.length ⟨Ab,Ab,Ab,Ab,rfl,out.length,Ab,Nat.le_refl _,rfl,rfl⟩ ?_
  clear s0 s1 s6 s5;rintro m e S ⟨s0,s1,s6,s5,rfl,k,s7,hk,hpos,rfl⟩
  cases m with
  |zero=>
   have hn:¬((0:Nat):Int)>0:=by omega
   refine Aa (A6 @s0 @s1 @s6 @s5 @s7 @hn) ?_;exact hK _ _ ⟨Ab,Ab,Ab,Ab,by rw[hpos,show Fj out a 0=0 from rfl];exact Ab,_,rfl⟩
  | succ j=>
   have hn:((j+1:Nat):Int)>0:=by omega
   have hjl:j<out.length:=by omega
   have hgj:out[j]? = some out[j]:=List.getElem?_eq_getElem hjl
   have wj:IntKind.i64.wrap (((j+1:Nat):Int)-1)=(j:Int):=by rw[wrap64 (by omega) (by omega)];omega
   have hjb:(j:Int)<(out.length:Int):=by omega
   have hj0:(0:Int)≤(j:Int):=by omega
   have htn:((j:Nat):Int).toNat=j:=Int.toNat_natCast j;have ha49:=hat j _ hgj;have kx:=kaf out[j] (hro _ (List.getElem_mem hjl));have hgd:out.getD j act0=out[j]:=by rw[List.getD_eq_getElem?_getD,hgj];rfl
   have hb:j*49+49≤out.length*49:=by omega
   rw[hlow,hgd]at hpos;generalize out[j]=x at *;have hap:(if j*49=0∧49=out.length*49 then some (AV.agg F)else some (AV.agg (L2 (An x))))=some (AV.agg (L2 (An x))):=by
    split
    ·rename_i hc
     rw[←ha49,hc.1,List.drop_zero,List.take_of_length_le (by omega)]
    ·rfl
   cases hx:NS x a with
   |true=>
    rw[hx]at kx;rw[if_pos hx]at hpos;refine Aa (an @s0 (an @s1 (an @s6 (AA @s5 @s7 @hn @wj @hjb @hg @hsz @ha49 @hF @hb @hap)))) ?_;refine cp kx ?_;refine Aa (A6 @s0 @s1 @s6 @s5 @s7 @wj) ?_;exact As j (by omega) ⟨Ab,Ab,Ab,Ab,rfl,j,Ab,by omega,hpos,rfl⟩
   |false=>
    rw[hx]at kx;rw[if_neg (by rw[hx];decide)]at hpos
    refine Aa (an @s0 (an @s1 (an @s6 (AA @s5 @s7 @hn @wj @hjb @hg @hsz @ha49 @hF @hb @hap)))) ?_;refine cp kx ?_;refine Aa (A5 @s0 @s1 @s6 @s5 @s7) ?_;exact hK _ _ ⟨Ab,Ab,Ab,Ab,by rw[hpos];exact Ab,_,rfl⟩
 clear s0 s1 s6 s5 kaf hlow hat;rintro e S ⟨s0,s1,s6,s5,s7,T,rfl⟩
 have hkn:=Rx out a out.length;have hput:EK out a=out.take (Fj out a out.length)++a::out.drop (Fj out a out.length):=rfl;generalize Fj out a out.length=k at *;have hbk:CB (some (.it .i64 ((k:Nat):Int))) 0=some k:=by simp[CB]
 have hap:Cz prog 25=some (61,49,568):=by kernel_rfl
 have hsle:Bt prog 25=some (61,49,true):=by kernel_rfl
 have hfk:(Bf out).length=out.length*49:=hF;have hdl:((out.drop k).map AL).length=out.length-k:=by rw[List.length_map,List.length_drop]
 have hdf:Ak ((out.drop k).map AL)=((Bf out).drop (k*49)).take ((out.length-k)*49):=by
  rw[Xe,List.take_of_length_le (by rw[LZ,List.length_drop];omega)]
 have hfit1:Ct (out.length-k) 568=true:=by unfold Ct;simp only[Bool.and_eq_true,decide_eq_true_eq];omega
 refine HW.seq (HW.reg [] [] (by kernel_rfl) ?_)
 refine Mz [_,_,_] [_,_,_] _ _ (F4 (pf:=[]) (rf:=[]) [_,_,_] _ _ ?_)
 refine Al ?_
 refine Aa (an @s5 @s7) ?_;refine⟨_,_,⟨rfl,fun T'=>YW (x:=.tmp 49) (lo:=some (.tmp 50)) (hi:=none) (l:=0) (n:=out.length) (a:=k) (b:=out.length) (sz:=49) rfl (by rfl) hsle (by decide) (by exact hbk) (by rfl) hkn (Nat.le_refl _) T'⟩,?_⟩
 refine⟨_,_,ZiF (l:=0) (off:=k*49) (n':=out.length-k) (m:=out.length) (sz:=49) rfl hap (by rw[hsle];rfl) (by rfl) (by rfl) (by rfl) hfk (by omega) hdf hdl (If _) (Pt _ (fun _=>rfl) _) hfit1,?_⟩
 refine F4 (pf:=[]) (rf:=[]) [_] _ _ ?_
 refine Al ?_
 refine run ?_;have hgk:out.length-k=(out.drop k).length:=by rw[List.length_drop]
 have hsx:AH 49 [AL a]=true:=by rfl
 have hfit2:Ct (out.length+1) 568=true:=by unfold Ct;simp only[Bool.and_eq_true,decide_eq_true_eq];omega
 refine HW.raw [] [] (by decide) (by kernel_rfl) ?_
 refine LG 0 (d:=some 53) (op:=.move (.tmp 5)) rfl rfl rfl rfl (by kernel_rfl) (by kernel_rfl) ?_
 refine Aa (an @s5 @s7) ?_;refine LG 1 (d:=some 54) (op:=.move (.tmp 7)) rfl rfl rfl rfl (by kernel_rfl) (by kernel_rfl) ?_
 refine Aa (an @s5 @s7) ?_;refine Zd8 2 (some 55) (.slice 25 (.tmp 53) none (some (.tmp 54)) none) rfl rfl rfl rfl (by kernel_rfl) (by kernel_rfl) (fun ho=>⟨rfl,fun T'=>YW (x:=.tmp 53) (lo:=none) (hi:=some (.tmp 54)) (l:=0) (n:=out.length) (a:=0) (b:=k) (sz:=49) ho (by rfl) hsle (by decide) (by rfl) (by exact hbk) (Nat.zero_le _) hkn T'⟩) ?_
 refine LG 3 (d:=some 56) (op:=.move (.tmp 0)) rfl rfl rfl rfl (by kernel_rfl) (by kernel_rfl) ?_
 refine Aa (A3 @s0 @s5 @s7) ?_;refine LG 4 (d:=some 57) (op:=.move (.tmp 6)) rfl rfl rfl rfl (by kernel_rfl) (by kernel_rfl) ?_
 refine Aa (A4 @s0 @s6 @s5 @s7) ?_;refine LG 5 (d:=some 58) (op:=.indexAddr 25 (.tmp 56) (.tmp 57)) rfl rfl rfl rfl (by kernel_rfl) (by kernel_rfl) ?_
 refine Aa (A7 @s0 @s6 @s5 @s7 @hg @hsz @hlt') ?_;refine LG 9 (d:=some 62) (op:=.move (.tmp 8)) rfl rfl rfl rfl (by kernel_rfl) (by kernel_rfl) ?_
 refine Aa (A4 @s0 @s6 @s5 @s7) ?_;refine OI (i:=6) (some 59) (.load 61 (.tmp 58)) (by kernel_rfl) rfl rfl rfl rfl ?_
 refine Aa (A7 @s0 @s6 @s5 @s7 @hg @hsz @hlt') ?_;refine OI (i:=7) (some 60) (.buildSlice 25 1 #[(0,.tmp 59)]) (by kernel_rfl) rfl rfl rfl rfl ?_
 refine Aa @hsx ?_;have hsrc:∀(md:Mode) (ys:List AV),Fg prog 25 (.sl md ys)=some ys:=fun md ys=>by unfold Fg;simp only[hsle]
 have hplen:(EK out a).length=out.length+1:=VX out a;have hprt:∀x∈EK out a,Ac.right x=true:=fun x hx=>by
  rcases VW hx with rfl|hx
  ·exact hra
  ·exact hro x hx
 by_cases hkl:k<out.length
 ·have h49:(Bf [a]).length=49:=by rw[LZ];rfl
  have hal:(Bc (Bf out) (k*49) (Bf [a])).length=out.length*49:=by
   unfold Bc;rw[List.length_append,List.length_append,List.length_take,List.length_drop,hfk,h49];omega
  refine OJ (i:=8) (some 61) (.call { callee:=.builtin .append,args:= #[.tmp 55,.tmp 60],argTypes:= #[25,25] }) (by kernel_rfl) rfl rfl rfl rfl (fun ho=>ZiJ (l:=0) (k:=k) (m:=out.length) (sz:=49) (by_:=568) (cs:=Bf out) (ys:=[AL a]) ho hap (by rfl) (by exact hsrc _ _) hsx (by rfl) hfk hkl (by exact Nat.zero_lt_one)) ?_
  refine OJ (i:=10) (some 63) (.call { callee:=.builtin .append,args:= #[.tmp 61,.tmp 62],argTypes:= #[25,25] }) (by kernel_rfl) rfl rfl rfl rfl (fun ho=>YZ (l:=0) (k:=k+1) (m:=out.length) (sz:=49) (by_:=568) (cs:=Bc (Bf out) (k*49) (Bf [a])) (ys:=(out.drop k).map AL) ho hap (by rfl) (by exact hsrc _ _) (If _) (by rfl) hal hkl (by rw[hdl];omega) (by rw[hdl,show k+1+(out.length-k)=out.length+1 by omega];exact hfit2)) ?_
  refine OI (i:=11) (some 5) (.assign (.tmp 63)) (by kernel_rfl) rfl rfl rfl rfl ?_
  refine run ?_;refine⟨by kernel_rfl,?_⟩
  refine HW.aw [] [] (by decide) (by kernel_rfl) ?_
  refine Al ?_
  refine Aa (an @s6 @w1) ?_;exact As (l.length-(i+1)) (by omega) ⟨Ab,Ab,i+1,EK out a,_,Ab,congrArg (fun n=>AV.wr 0 n none) (show k+1+(out.drop k).length=(EK out a).length by rw[List.length_drop,hplen];omega),by rw[hput,←ZgR out k a hkl],by omega,hso,hprt,by omega,rfl⟩
 ·obtain rfl:k=out.length:=by omega
  have hdn:out.drop out.length=[]:=List.drop_length;refine OJ (i:=8) (some 61) (.call { callee:=.builtin .append,args:= #[.tmp 55,.tmp 60],argTypes:= #[25,25] }) (by kernel_rfl) rfl rfl rfl rfl (fun ho=>YZ (l:=0) (k:=out.length) (m:=out.length) (sz:=49) (by_:=568) (cs:=Bf out) (ys:=[AL a]) ho hap (by rfl) (by exact hsrc _ _) hsx (by rfl) hfk (Nat.le_refl _) (Nat.lt_succ_self _) hfit2) ?_
  have hcl:((Bf out).take (out.length*49)++Bf [a]).length=(out.length+1)*49:=by
   rw[List.take_of_length_le (by omega),List.length_append,hfk,LZ]
   show _+1*49=_
   omega
  have hrowk:(.row (((Bf out).take (out.length*49)++Bf [a])++Bf (out.drop out.length)) 61 49::(T++[.buf (out.length-out.length) 61 49]):Ae)=.row (Bf (EK out a)) 61 49::(T++[.buf (out.length-out.length) 61 49]):=by
   rw[hput,Xd,←Nf,←Nf,hdn];simp
  have happ:GB prog 25 25 (.row ((Bf out).take (out.length*49)++Bf [a]) 61 49::(T++[.buf (out.length-out.length) 61 49])) (.wr 0 (out.length+1) none) (.sl (.own (T.length+1)) ((out.drop out.length).map AL))=some (.wr 0 (out.length+1+((out.drop out.length).map AL).length) none,.row (((Bf out).take (out.length*49)++Bf [a])++Bf (out.drop out.length)) 61 49::(T++[.buf (out.length-out.length) 61 49])):=by
   unfold GB;simp only[hap,hsrc,List.getElem?_cons_zero]
   rw[if_pos ⟨hcl,trivial,trivial,If _,by rw[hdn];exact hfit2⟩]
   rfl
  refine OJ (i:=10) (v:=.wr 0 (out.length+1+((out.drop out.length).map AL).length) none) (S':=.row (((Bf out).take (out.length*49)++Bf [a])++Bf (out.drop out.length)) 61 49::(T++[.buf (out.length-out.length) 61 49])) (some 63) (.call { callee:=.builtin .append,args:= #[.tmp 61,.tmp 62],argTypes:= #[25,25] }) (by kernel_rfl) rfl rfl rfl rfl (fun ho=>by exact YY ho happ) ?_
  refine OI (i:=11) (some 5) (.assign (.tmp 63)) (by kernel_rfl) rfl rfl rfl rfl ?_
  refine run ?_;refine⟨by kernel_rfl,?_⟩
  refine HW.aw [] [] (by decide) (by kernel_rfl) ?_
  refine Al ?_
  refine Aa (an @s6 @w1) ?_;exact As (l.length-(i+1)) (by omega) ⟨Ab,Ab,i+1,EK out a,_,Ab,congrArg (fun n=>AV.wr 0 n none) (show out.length+1+(out.drop out.length).length=(EK out a).length by rw[hdn,hplen];rfl),hrowk,by omega,hso,hprt,by omega,rfl⟩
end Pe
end
section
namespace Pe
open Tryz
open Go Go.RowKit Co Sg Ac It Sl Tp
set_option maxRecDepth 100000
set_option maxHeartbeats 4000000
theorem ZhZ{α:Type}(p:α→Bool)(l:List α)(k:Nat)(h:k<l.length):(l.take (k+1)).filter p=(l.take k).filter p++if p l[k]=true then [l[k]]else []:=by
 rw[List.take_succ_eq_append_getElem h,List.filter_append];congr 1
 simp only[List.filter_cons,List.filter_nil]
theorem Zg1(ps:List Int)(l:List Ac.Act)(id:By)(hl:l.length≤1000)(hr:KA l):AC prog 143 [Ie ps l,.st id] [] (Dl (BY l id)) []:=by
 have ks:=ZgQ l hl hr;have hL:=QD l [];rw[List.length_nil]at hL;unfold BY;generalize Eo [] l=L at *;have hsz:=If L;refine Ai [243] [] func143 ?_;refine run ?_;refine cp ks ?_;refine run ?_;refine CG (fun m e S=>e 1=.st id∧e 5=.sl .ro (L.map AL) ∧ ∃(k:Nat) (acc:List Ac.Act) (T:Ae),e 7=.it .i64 (k:Int)∧e 6=.sl (.own 1) (acc.map Am)∧S=.cells [AB ps,.sl .ro (l.map AL)]::.buf acc.length 55 20::T∧acc=(L.take k).filter (fun a=>a.author==id)∧k≤L.length∧m=L.length-k) L.length _ _ (Aq.reserve 0 6 (es:=[]) (by rfl) 55 20)
  ⟨Ab,Ab,0,[],[],Ab,Ab,rfl,by simp,by omega,rfl⟩ ?_
 rintro m e S ⟨s1,s5,k,acc,T,s7,s6,rfl,hacc,hk,rfl⟩
 have hal:acc.length≤k:=by
  rw[hacc];exact Nat.le_trans (List.length_filter_le _ _) (by rw[List.length_take];omega)
 have hsa:=D6 acc;by_cases hlt:k<L.length
 ·have hg:L[k]? = some L[k]:=List.getElem?_eq_getElem hlt
  have hst:=ZhZ (fun a:Ac.Act=>a.author==id) L k hlt
  rw[←hacc]at hst;have hlt':(k:Int)<(L.length:Int):=by omega
  have w1:=Cg (k:=k) (by omega)
  generalize L[k]=a at *;have hid:((An a).act.author==id)=(a.author==id):=rfl;cases h0:(a.author==id)with
  |true=>
   rw[h0]at hst hid;rw[if_pos rfl]at hst;refine Aa (F3 @s1 @s5 @s7 @s6 @hlt' @hg @hsz @hsa @hid @w1) ?_;exact As (L.length-(k+1)) (by omega) ⟨Ab,Ab,k+1,acc++[a],_,Ab,by rw[List.map_append];exact Ab,by rw[List.length_append];rfl,hst.symm,by omega,rfl⟩
  |false=>
   rw[h0]at hst hid;rw[if_neg (by decide),List.append_nil]at hst
   refine Aa (A9 @s1 @s5 @s7 @s6 @hlt' @hg @hsz @hid @w1) ?_;exact As (L.length-(k+1)) (by omega) ⟨Ab,Ab,k+1,acc,_,Ab,Ab,rfl,hst.symm,by omega,rfl⟩
 ·obtain rfl:k=L.length:=by omega
  rw[List.take_length]at hacc;subst hacc;have hlt':¬(L.length:Int)<(L.length:Int):=by omega
  refine Aa (A5 @s1 @s5 @s7 @s6 @hlt') ?_;exact AQ
end Pe
end
section
namespace Pe
open Tryz
open Go Go.RowKit Co Sg Ac It Sl Tp
set_option maxRecDepth 100000
set_option maxHeartbeats 4000000
theorem QF{a b:By}(h:a≠b):(a==b)=false:=beq_eq_false_iff_ne.2 h
theorem QG{a b:By}(h:a=b):(a==b)=true:=beq_iff_eq.2 h
theorem Yi{α:Type}(p:α→Bool)(l:List α)(k:Nat)(h:k<l.length):(l.take (k+1)).filter p=(l.take k).filter p++if p l[k]=true then [l[k]]else []:=by
 rw[List.take_succ_eq_append_getElem h,List.filter_append];congr 1
 simp only[List.filter_cons,List.filter_nil]
theorem ZaI{a:Ac.Act}(h:Ac.right a=true):Sz a∧(-9223372036854775808≤a.n∧a.n≤9223372036854775807)∧(-9223372036854775808≤a.m∧a.m≤9223372036854775807):=by
 have hs:=C3 h;exact⟨ZcT h,by have :=hs.n;omega,by have :=hs.m;omega⟩
theorem ZjE(l:List Ac.Act)(id:By)(hl:l.length≤1000)(hr:KA l):AC prog 144 [Dl l,.st id] [] (Dl (CY l id)) []:=by
 have hsz:=D6 l;refine Ai [32,244] [] func144 ?_;refine run ?_;refine CG (fun m e S=>e 0=Dl l∧e 1=.st id ∧ ∃(k:Nat) (acc:List Ac.Act) (T:Ae),e 6=.it .i64 (k:Int)∧e 5=.sl (.own 0) (acc.map Am)∧S=.buf acc.length 55 20::T∧acc=CY (l.take k) id∧k≤l.length∧m=l.length-k) l.length _ _ (Aq.reserve 0 5 (es:=[]) (by rfl) 55 20)
  ⟨Ab,Ab,0,[],[],Ab,Ab,rfl,by simp[CY],by omega,rfl⟩ ?_
 rintro m e S ⟨s0,s1,k,acc,T,s6,s5,rfl,hacc,hk,rfl⟩
 have hT1:∀y:SObj,(T++[y])[T.length]? = some y:=fun y=>by simp
 have hT2:∀y z:SObj,(T++[y]).set T.length z=T++[z]:=fun y z=>by simp
 have hal:acc.length≤k:=by
  rw[hacc];exact Nat.le_trans (List.length_filter_le _ _) (by rw[List.length_take];omega)
 have hsa:=D6 acc;by_cases hlt:k<l.length
 ·have hg:l[k]? = some l[k]:=List.getElem?_eq_getElem hlt
  have hst:CY (l.take (k+1)) id=acc++if Cl id l[k]=true then [l[k]]else []:=by
   unfold CY at hacc ⊢;rw[Yi _ l k hlt,hacc]
  have hlt':(k:Int)<(l.length:Int):=by omega
  have w1:=Cg (k:=k) (by omega)
  have hra:=hr l[k] (List.getElem_mem hlt);generalize l[k]=a at *;obtain⟨hz,hn,hm⟩:=ZaI hra;have ko:=Zay a.n hn;have kv:=XZ a.n a hz hn;by_cases h0:a.author=id
  rotate_left
  ·have q0:(a.author==id)=false:=QF h0
   have hb:Cl id a=false:=by simp[Cl,h0]
   rw[hb,if_neg (by decide),List.append_nil]at hst
   refine Aa (AA @s0 @s1 @s6 @s5 @hlt' @hg @hsz @hT1 @hT2 @w1 @q0) ?_;exact As (l.length-(k+1)) (by omega) ⟨Ab,Ab,k+1,acc,_,Ab,Ab,rfl,hst.symm,by omega,rfl⟩
  have q0:(a.author==id)=true:=QG h0;by_cases h1:a.kind=0
  rotate_left
  ·have q1:(a.kind !=0)=true:=Fw h1
   have hb:Cl id a=false:=by simp[Cl,h0,h1]
   rw[hb,if_neg (by decide),List.append_nil]at hst
   refine Aa (an @s0 (AA @s1 @s6 @s5 @hlt' @hg @hsz @hT1 @hT2 @w1 @q0 @q1)) ?_;exact As (l.length-(k+1)) (by omega) ⟨Ab,Ab,k+1,acc,_,Ab,Ab,rfl,hst.symm,by omega,rfl⟩
  have q1:(a.kind !=0)=false:=Gw h1;by_cases h2:a.seq=0
  rotate_left
  ·have q2:(a.seq !=0)=true:=Fw h2
   have hb:Cl id a=false:=by simp[Cl,h0,h1,h2]
   rw[hb,if_neg (by decide),List.append_nil]at hst
   refine Aa (an @s0 (an @s1 (AA @s6 @s5 @hlt' @hg @hsz @hT1 @hT2 @w1 @q0 @q1 @q2))) ?_;exact As (l.length-(k+1)) (by omega) ⟨Ab,Ab,k+1,acc,_,Ab,Ab,rfl,hst.symm,by omega,rfl⟩
  have q2:(a.seq !=0)=false:=Gw h2;by_cases h3:a.prev=[]
  rotate_left
  ·have q3:(a.prev==[])=false:=QF h3
   have hb:Cl id a=false:=by simp[Cl,h0,h1,h2,h3]
   rw[hb,if_neg (by decide),List.append_nil]at hst
   refine Aa (an @s0 (an @s1 (an @s6 (AA @s5 @hlt' @hg @hsz @hT1 @hT2 @w1 @q0 @q1 @q2 @q3)))) ?_;exact As (l.length-(k+1)) (by omega) ⟨Ab,Ab,k+1,acc,_,Ab,Ab,rfl,hst.symm,by omega,rfl⟩
  have q3:(a.prev==[])=true:=QG h3;by_cases h4:Ds a.n=id
  rotate_left
  ·have q4:(Ds a.n==id)=false:=QF h4
   have hb:Cl id a=false:=by simp[Cl,h0,h1,h2,h3,h4]
   rw[hb,if_neg (by decide),List.append_nil]at hst
   refine Aa (an @s0 (an @s1 (an @s6 (AA @s5 @hlt' @hg @hsz @hT1 @hT2 @w1 @q0 @q1 @q2 @q3)))) ?_;refine cp ko ?_;refine Aa (an @s0 (an @s1 (an @s6 (an @s5 (AA @hlt' @hg @hsz @hT1 @hT2 @w1 @q0 @q1 @q2 @q3 @q4))))) ?_;exact As (l.length-(k+1)) (by omega) ⟨Ab,Ab,k+1,acc,_,Ab,Ab,rfl,hst.symm,by omega,rfl⟩
  have q4:(Ds a.n==id)=true:=QG h4;cases hv:B0 a.n a with
  |false=>
   rw[hv]at kv;have hb:Cl id a=false:=by simp[Cl,h0,h1,h2,h3,h4,hv]
   rw[hb,if_neg (by decide),List.append_nil]at hst
   refine Aa (an @s0 (an @s1 (an @s6 (AA @s5 @hlt' @hg @hsz @hT1 @hT2 @w1 @q0 @q1 @q2 @q3)))) ?_;refine cp ko ?_;refine Aa (an @s0 (an @s1 (an @s6 (an @s5 (AA @hlt' @hg @hsz @hT1 @hT2 @w1 @q0 @q1 @q2 @q3 @q4))))) ?_;refine cp kv ?_;refine Aa (AA @s0 @s1 @s6 @s5 @hlt' @hg @hsz @hT1 @hT2 @w1 @hsa) ?_;exact As (l.length-(k+1)) (by omega) ⟨Ab,Ab,k+1,acc,_,Ab,Ab,rfl,hst.symm,by omega,rfl⟩
  |true=>
   rw[hv]at kv;have hb:Cl id a=true:=by simp[Cl,h0,h1,h2,h3,h4,hv]
   rw[hb,if_pos rfl]at hst;refine Aa (an @s0 (an @s1 (an @s6 (AA @s5 @hlt' @hg @hsz @hT1 @hT2 @w1 @q0 @q1 @q2 @q3)))) ?_;refine cp ko ?_;refine Aa (an @s0 (an @s1 (an @s6 (an @s5 (AA @hlt' @hg @hsz @hT1 @hT2 @w1 @q0 @q1 @q2 @q3 @q4))))) ?_;refine cp kv ?_;refine Aa (AA @s0 @s1 @s6 @s5 @hlt' @hg @hsz @hT1 @hT2 @w1 @hsa) ?_;exact As (l.length-(k+1)) (by omega) ⟨Ab,Ab,k+1,acc++[a],_,Ab,by rw[List.map_append];exact Ab,by rw[List.length_append];rfl,hst.symm,by omega,rfl⟩
 ·obtain rfl:k=l.length:=by omega
  rw[List.take_length]at hacc;subst hacc;have hlt':¬(l.length:Int)<(l.length:Int):=by omega
  refine Aa (A5 @s0 @s1 @s6 @s5 @hlt') ?_;exact AQ
theorem ZgM{c:Chn}(h:c.keys≠[]):c.keys[c.keys.length-1]? = some (Cy c):=by
 have h0:0<c.keys.length:=List.length_pos_iff.2 h;unfold Cy;rw[List.getD_eq_getElem?_getD,List.getElem?_eq_getElem (by omega)]
 rfl
theorem ZjC(l:List Ac.Act)(c:Chn)(N:Nat)(hl:l.length≤1000)(hr:KA l)(hc:COk c N)(hN:N≤500)(hk:c.keys≠[]):AC prog 147 [Dl l,AN c] [] (Dl (BD l c)) []:=by
 have hsz:=D6 l;have hszk:=J2 c.keys;have hlk:=ZgM hk;have hkl:0<c.keys.length:=List.length_pos_iff.2 hk;have hcl:=hc.len;have hck:=hc.klen;have w0:IntKind.i64.wrap ((c.keys.length:Int)-1)=((c.keys.length-1:Nat):Int):=by rw[wrap64 (by omega) (by omega)];omega
 have hlast:=hc.last;have hkb:((c.keys.length-1:Nat):Int)<(c.keys.length:Int):=by omega
 have kf:=fun a (hz:Sz a)=>Zju c a (by omega) hc.acts hz
 generalize hLK:Cy c=lk at *;refine Ai [250,244] [] func147 ?_;refine run ?_;refine CG (fun m e S=>e 0=Dl l∧e 3=.ptr 0 0 ∧ ∃(k:Nat) (acc:List Ac.Act) (T:Ae),e 6=.it .i64 (k:Int)∧e 5=.sl (.own 1) (acc.map Am)∧S=.cells [.st c.id,Dl c.acts,.sl .ro (c.keys.map Cr),.st c.prev,.it .i64 c.gen,.bo c.fork]::.buf acc.length 55 20::T∧acc=BD (l.take k) c∧k≤l.length∧m=l.length-k) l.length _ _ (Aq.reserve 0 5 (es:=[]) (by rfl) 55 20)
  ⟨Ab,Ab,0,[],[],Ab,Ab,rfl,by simp[BD],by omega,rfl⟩ ?_
 rintro m e S ⟨s0,s3,k,acc,T,s6,s5,rfl,hacc,hk,rfl⟩
 have hal:acc.length≤k:=by
  rw[hacc];exact Nat.le_trans (List.length_filter_le _ _) (by rw[List.length_take];omega)
 have hsa:=D6 acc;by_cases hlt:k<l.length
 ·have hg:l[k]? = some l[k]:=List.getElem?_eq_getElem hlt
  have hst:BD (l.take (k+1)) c=acc++if(Bp c l[k]&&B0 lk.pub l[k])=true then [l[k]]else []:=by
   unfold BD at hacc ⊢;rw[Yi _ l k hlt,hacc,hLK]
  have hlt':(k:Int)<(l.length:Int):=by omega
  have w1:=Cg (k:=k) (by omega)
  have hra:=hr l[k] (List.getElem_mem hlt);generalize l[k]=a at *;obtain⟨hz,hn,hm⟩:=ZaI hra;have kf:=kf a hz;have kv:=XZ lk.pub a hz (by omega)
  cases hf:Bp c a with
  |false=>
   rw[hf]at kf hst;rw[Bool.false_and,if_neg (by decide),List.append_nil]at hst
   refine Aa (A8 @s0 @s3 @s6 @s5 @hlt' @hg @hsz @w1) ?_;refine cp kf ?_;refine Aa (A5 @s0 @s3 @s6 @s5 @w1) ?_;exact As (l.length-(k+1)) (by omega) ⟨Ab,Ab,k+1,acc,_,Ab,Ab,rfl,hst.symm,by omega,rfl⟩
  | true=>
   rw[hf]at kf hst;rw[Bool.true_and]at hst;cases hv:B0 lk.pub a with
   |false=>
    rw[hv]at kv hst;rw[if_neg (by decide),List.append_nil]at hst
    refine Aa (A8 @s0 @s3 @s6 @s5 @hlt' @hg @hsz @w1) ?_;refine cp kf ?_;refine Aa (AA @s0 @s3 @s6 @s5 @hg @hsz @hszk @hlk @w0 @w1 @hkb) ?_;refine cp kv ?_;refine Aa (A5 @s0 @s3 @s6 @s5 @w1) ?_;exact As (l.length-(k+1)) (by omega) ⟨Ab,Ab,k+1,acc,_,Ab,Ab,rfl,hst.symm,by omega,rfl⟩
   |true=>
    rw[hv]at kv hst;rw[if_pos rfl]at hst;refine Aa (A8 @s0 @s3 @s6 @s5 @hlt' @hg @hsz @w1) ?_;refine cp kf ?_;refine Aa (AA @s0 @s3 @s6 @s5 @hg @hsz @hszk @hlk @w0 @w1 @hkb) ?_;refine cp kv ?_;refine Aa (A8 @s0 @s3 @s6 @s5 @hg @hsz @hsa @w1) ?_;exact As (l.length-(k+1)) (by omega) ⟨Ab,Ab,k+1,acc++[a],_,Ab,by rw[List.map_append];exact Ab,by rw[List.length_append];rfl,hst.symm,by omega,rfl⟩
 ·obtain rfl:k=l.length:=by omega
  rw[List.take_length]at hacc;subst hacc;have hlt':¬(l.length:Int)<(l.length:Int):=by omega
  refine Aa (A5 @s0 @s3 @s6 @s5 @hlt') ?_;exact AQ
abbrev ZbY:List AV:=[.st [],.it .i64 0,.st [],.it .i64 0,.it .i64 0,.st [],.st [],.it .i64 0,.st [],.sl .full [],.st [],.st [],.st [],.st [],.it .i64 0,.sl .full [],.it .i64 0,.it .i64 0,.it .i64 0,.it .i64 0]
def JN(acts:List Ac.Act):Ac.Act×Bool:=
 match acts.reverse.find? (fun a=>a.kind==19)with
 |some a=>(a,true)
 |none=>(act0,false)
theorem Zi1(c:Chn)(hl:c.acts.length≤1000):AC prog 247 [AN c] [] (.tup [Am (JN c.acts).1,.bo (JN c.acts).2]) []:=by
 obtain⟨id,acts,keys,prev,gen,fork⟩:=c;simp only at hl
 have hsz:=D6 acts;have w0:IntKind.i64.wrap ((acts.length:Int)-1)=(acts.length:Int)-1:=wrap64 (by omega) (by omega)
 refine Ai [] [] func247 ?_;refine Aa @w0 ?_;refine Bn (fun m e S=>e 1=.ptr 0 0∧e 2=.ptr 1 0∧S=[.cells [.st id,Dl acts,.sl .ro (keys.map Cr),.st prev,.it .i64 gen,.bo fork],.cells ZbY] ∧ ∃j:Nat,e 4=.it .i64 ((j:Int)-1)∧j≤acts.length∧acts.reverse.find? (fun a=>a.kind==19)=(acts.take j).reverse.find? (fun a=>a.kind==19)∧m=j) acts.length ⟨Ab,Ab,rfl,acts.length,Ab,Nat.le_refl _,by rw[List.take_length],rfl⟩ ?_
 rintro m e S ⟨s1,s2,rfl,j,s4,hj,hf,rfl⟩
 rw[GJ s2];cases m with
 |zero=>
  have hn:¬(((0:Nat):Int)-1)≥0:=by omega
  have hv:JN acts=(act0,false):=by unfold JN;rw[hf];rfl
  rw[hv];refine Aa (A4 @s1 @s2 @s4 @hn) ?_;exact AQ
 | succ j=>
  have hjl:j<acts.length:=by omega
  have hg:acts[j]? = some acts[j]:=List.getElem?_eq_getElem hjl
  have ej:(((j+1:Nat):Int)-1)=(j:Int):=by omega
  have hp:(j:Int)≥0:=by omega
  rw[ej]at s4;have htk:(acts.take (j+1)).reverse=acts[j]::(acts.take j).reverse:=by rw[List.take_succ_eq_append_getElem hjl,List.reverse_append];rfl
  rw[htk,List.find?_cons]at hf
  have w1:IntKind.i64.wrap ((j:Int)-1)=(j:Int)-1:=wrap64 (by omega) (by omega)
  generalize acts[j]=k at *;cases hle:(k.kind==19)with
  |true=>
   rw[hle]at hf;have hv:JN acts=(k,true):=by unfold JN;rw[hf]
   rw[hv];refine Aa (A7 @s1 @s2 @s4 @hp @hg @hsz @hle) ?_;exact AQ
  |false=>
   rw[hle]at hf;refine Aa (A8 @s1 @s2 @s4 @hp @hg @hsz @hle @w1) ?_;exact As j (by omega) ⟨Ab,Ab,rfl,j,Ab,by omega,hf,rfl⟩
theorem ZiW(ps:List Int)(l:List Ac.Act)(id:By)(gen:Int)(hl:l.length≤1000):AC prog 246 [Ie ps l,.st id,.it .i64 gen] [] (.tup [Br CX,.bo false]) []:=by
 have hsz:=If l;refine Ai [154,315,316] [] func246 ?_;refine run ?_;refine Bn (fun m e S=>e 3=.ptr 0 0∧e 6=.ptr 1 0∧e 8=.ptr 2 0∧e 9=.st [] ∧ ∃(i:Nat) (T:Ae),e 10=.it .i64 (i:Int)∧S=.cells [AB ps,.sl .ro (l.map AL)]::.cells [.st [],.it .i64 0,.st [],.it .i64 0,.it .i64 0,.it .i64 0,.it .i64 0,.it .i64 0,.it .i64 0]::.cells [.st [],.it .i64 0,.st [],.it .i64 0,.it .i64 0,.it .i64 0,.it .i64 0,.it .i64 0,.it .i64 0]::T∧i≤l.length∧m=l.length-i) l.length ⟨Ab,Ab,Ab,Ab,0,[],Ab,rfl,by omega,rfl⟩ ?_
 rintro m e S ⟨s3,s6,s8,s9,i,T,s10,rfl,hi,rfl⟩
 rw[GJ s6];have hT1:∀y:SObj,(T++[y])[T.length]? = some y:=fun y=>by simp
 have hT2:∀y z:SObj,(T++[y]).set T.length z=T++[z]:=fun y z=>by simp
 by_cases hlt:i<l.length
 ·have hg:l[i]? = some l[i]:=List.getElem?_eq_getElem hlt
  have hlt':(i:Int)<(l.length:Int):=by omega
  have w1:=Cg (k:=i) (by omega)
  generalize l[i]=a at *;have kq:((An a).kind !=1)=true:=rfl;refine Aa (an @s3 (AA @s6 @s8 @s9 @s10 @hlt' @hg @hsz @hT1 @hT2 @w1 @kq)) ?_;exact As (l.length-(i+1)) (by omega) ⟨Ab,Ab,Ab,Ab,i+1,_,Ab,rfl,by omega,rfl⟩
 ·obtain rfl:i=l.length:=by omega
  have hlt':¬(l.length:Int)<(l.length:Int):=by omega
  refine Aa (A6 @s3 @s6 @s8 @s9 @s10 @hlt') ?_;exact Ad
theorem KE{A B:Prop}(h:B)(e:A=B:=by
    conv=>
      lhs
      simp only[Cm,Cu,Dh,List.map_cons,List.map_nil,List.map_toArray,List.getElem?_toArray,List.getElem?_cons_zero,List.getElem?_cons_succ,Option.bind_some,Option.bind_none,List.append_eq,List.cons_append,List.nil_append,Cv,ER,Cs,RH,List.isEmpty_nil,List.isEmpty_cons,Bool.and_true,Bool.and_false,Bool.and_self,Bool.false_and,Bool.true_and,List.lookup,Nat.reduceBEq,beq_self_eq_true,List.head?_cons,List.head?_nil,Option.some_beq_some,Option.none_beq_some,Option.isSome_some,Option.isSome_none,Bool.or_true,Bool.true_or,Bool.or_false,Bool.not_true,Bool.not_false,Bool.false_eq_true,if_true,if_false,↓reduceIte,List.size_toArray,List.length_cons,List.length_nil,List.range_succ_eq_map,List.range_zero,Nat.reduceAdd,List.filterMap_cons,List.filterMap_nil]):A:=e▸h
theorem ZjB(ps:List Int)(l:List Ac.Act)(c:Chn)(hl:l.length≤1000)(hcl:c.acts.length≤1000):AC prog 146 [Ie ps l,AN c] [] (.tup [AN c,.bo false]) []:=by
 have k1:=ZiW ps l c.id c.gen hl;have k2:=Zi1 c hcl;obtain⟨id,acts,keys,prev,gen,fork⟩:=c;simp only at k1 k2 hcl
 generalize JN acts=r at *;obtain⟨ra,rb⟩:=r;refine AC.enter4 [246,247,248,249,154] [] [(8,([],[1000000],[]))] [] func146 rfl (by decide) (by decide) (Nat.le_of_ble_eq_true rfl) (by kernel_rfl) ?_;refine KE ?_
 refine run4 ?_
 refine cp k1 ?_;refine run4 ?_
 refine cp k2 ?_;refine run4 ?_
 exact Ad
theorem ZE(c:Chn)(a:Ac.Act)(hl:c.acts.length≤1000)(hkl:c.keys.length≤1000)(ha:Ac.right a=true):AC prog 145 [AN c,Am a] [] (AN (Bi c a)) []:=by
 have k1:=VH ha;obtain⟨id,acts,keys,prev,gen,fork⟩:=c;simp only at hl hkl
 have hsz:=D6 acts;have hszk:=J2 keys;have e1:(acts++[a]).map Am=acts.map Am++[Am a]:=by rw[List.map_append];rfl
 by_cases h0:a.kind=0
 ·have hc:Bi ⟨id,acts,keys,prev,gen,fork⟩ a=⟨id,acts++[a],keys++[⟨0,a.n,a.m⟩],dg a,gen,fork⟩:=by simp[Bi,h0]
  have e2:(keys++[(⟨0,a.n,a.m⟩:Tp.KeyAt)]).map Cr=keys.map Cr++[Cr ⟨0,a.n,a.m⟩]:=by rw[List.map_append];rfl
  have q0:(a.kind==0)=true:=beq_iff_eq.2 h0;have q18:(a.kind==18)=false:=beq_eq_false_iff_ne.2 (by omega)
  rw[hc];show AC _ _ _ _ (.agg [.st id,.sl .ro ((acts++[a]).map Am),.sl .ro ((keys++[(⟨0,a.n,a.m⟩:Tp.KeyAt)]).map Cr),.st (dg a),.it .i64 gen,.bo fork]) _
  rw[e1,e2];generalize dg a=d at *;refine AC.enter4 [245] [] [(1,([1],[10],[])),(7,([1],[37,39],[]))] [] func145 rfl (by decide) (by decide) (Nat.le_of_ble_eq_true rfl) (by kernel_rfl) ?_;refine KE ?_
  refine runf4 @hsz ?_
  refine KL ?_;refine run4 ?_
  repeat (first|refine k4 ?_|refine GU ?_|(refine BJ ?_;refine runf4 @hsz ?_)|(refine a4 ?_;refine runf4 @hsz ?_));try refine runf4 @hsz ?_
  repeat (first|refine k4 ?_|refine GU ?_|(refine BJ ?_;refine runf4 @hsz ?_)|(refine a4 ?_;refine runf4 @hsz ?_));try refine runf4 @hsz ?_
  refine run4 ?_
  refine cp k1 ?_;refine runf4 (an @q18 @q0) ?_
  refine runf4 (an @q18 @q0) ?_
  refine KL ?_;refine run4 ?_
  repeat (first|refine k4 ?_|refine GU ?_|(refine BJ ?_;refine runf4 @hszk ?_)|(refine a4 ?_;refine runf4 @hszk ?_));try refine runf4 @hszk ?_
  repeat (first|refine k4 ?_|refine GU ?_|(refine BJ ?_;refine runf4 @hszk ?_)|(refine a4 ?_;refine runf4 @hszk ?_));try refine runf4 @hszk ?_
  refine run4 ?_
  exact AQ
 have q0:(a.kind==0)=false:=beq_eq_false_iff_ne.2 h0;by_cases h18:a.kind=18
 ·have hc:Bi ⟨id,acts,keys,prev,gen,fork⟩ a=⟨id,acts++[a],keys++[⟨((acts.length+1:Nat):Int),a.n,a.m⟩],dg a,gen,fork⟩:=by simp[Bi,h18]
  have e2:(keys++[(⟨((acts.length+1:Nat):Int),a.n,a.m⟩:Tp.KeyAt)]).map Cr=keys.map Cr++[Cr ⟨((acts.length+1:Nat):Int),a.n,a.m⟩]:=by rw[List.map_append];rfl
  have q18:(a.kind==18)=true:=beq_iff_eq.2 h18;have hll:(acts.map Am++[Am a]).length=acts.length+1:=by simp
  rw[hc];show AC _ _ _ _ (.agg [.st id,.sl .ro ((acts++[a]).map Am),.sl .ro ((keys++[(⟨((acts.length+1:Nat):Int),a.n,a.m⟩:Tp.KeyAt)]).map Cr),.st (dg a),.it .i64 gen,.bo fork]) _
  rw[e1,e2];generalize dg a=d at *;refine AC.enter4 [245] [] [(1,([1],[10],[])),(7,([1],[37,39],[]))] [] func145 rfl (by decide) (by decide) (Nat.le_of_ble_eq_true rfl) (by kernel_rfl) ?_;refine KE ?_
  refine runf4 @hsz ?_
  refine KL ?_;refine run4 ?_
  repeat (first|refine k4 ?_|refine GU ?_|(refine BJ ?_;refine runf4 @hsz ?_)|(refine a4 ?_;refine runf4 @hsz ?_));try refine runf4 @hsz ?_
  repeat (first|refine k4 ?_|refine GU ?_|(refine BJ ?_;refine runf4 @hsz ?_)|(refine a4 ?_;refine runf4 @hsz ?_));try refine runf4 @hsz ?_
  refine run4 ?_
  refine cp k1 ?_;refine runf4 (an @q18 @q0) ?_
  refine runf4 (an @q18 @q0) ?_
  refine KL ?_;refine run4 ?_
  repeat (first|refine k4 ?_|refine GU ?_|(refine BJ ?_;refine runf4 @hszk ?_)|(refine a4 ?_;refine runf4 @hszk ?_));try refine runf4 @hszk ?_
  repeat (first|refine k4 ?_|refine GU ?_|(refine BJ ?_;refine runf4 @hszk ?_)|(refine a4 ?_;refine runf4 @hszk ?_));try refine runf4 @hszk ?_
  refine run4 ?_
  exact AQ
 ·have hc:Bi ⟨id,acts,keys,prev,gen,fork⟩ a=⟨id,acts++[a],keys,dg a,gen,fork⟩:=by simp[Bi,h0,h18]
  have q18:(a.kind==18)=false:=beq_eq_false_iff_ne.2 h18;rw[hc];show AC _ _ _ _ (.agg [.st id,.sl .ro ((acts++[a]).map Am),.sl .ro (keys.map Cr),.st (dg a),.it .i64 gen,.bo fork]) _
  rw[e1];generalize dg a=d at *;refine AC.enter4 [245] [] [(1,([1],[10],[])),(7,([1],[37,39],[]))] [] func145 rfl (by decide) (by decide) (Nat.le_of_ble_eq_true rfl) (by kernel_rfl) ?_;refine KE ?_
  refine runf4 @hsz ?_
  refine KL ?_;refine run4 ?_
  repeat (first|refine k4 ?_|refine GU ?_|(refine BJ ?_;refine runf4 @hsz ?_)|(refine a4 ?_;refine runf4 @hsz ?_));try refine runf4 @hsz ?_
  repeat (first|refine k4 ?_|refine GU ?_|(refine BJ ?_;refine runf4 @hsz ?_)|(refine a4 ?_;refine runf4 @hsz ?_));try refine runf4 @hsz ?_
  refine run4 ?_
  refine cp k1 ?_;refine runf4 (an @q18 @q0) ?_
  refine runf4 (an @q18 @q0) ?_
  exact AQ
end Pe
end
end Go.Proofs.YtchpmmjmimaigaaGreatDoor
