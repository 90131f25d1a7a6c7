import Derived.Test.YtipfggegddlgdaaGreatDoorKw26
import Derived.KernelRfl
set_option linter.unusedSectionVars false
set_option linter.unusedVariables false
set_option linter.unusedSimpArgs false
namespace Go.Proofs.YtipfggegddlgdaaGreatDoor
section
namespace Pe
open Tryz
open Go Go.RowKit Co Sg Ac It Sl Tp
set_option maxRecDepth 100000
set_option maxHeartbeats 8000000
def E5:List Ac.Act→Nat→List (AV×AV)
 |[],_=>[]
 |a::l,i=>(.st (dg a),.it .i64 (i:Int))::E5 l (i+1)
theorem Ua:∀(l:List Ac.Act) (a:Ac.Act) (i:Nat),E5 (l++[a]) i=E5 l i++[(.st (dg a),.it .i64 ((i+l.length:Nat):Int))]
 |[],a,i=>rfl
 |b::l,a,i=>by
  show _::E5 (l++[a]) (i+1)=_::(E5 l (i+1)++_)
  rw[Ua l a (i+1),List.length_cons,show i+1+l.length=i+(l.length+1) by omega]
theorem P0(d:By):∀(l:List Ac.Act) (i j:Nat),Cj (.st d) (E5 l i) j=some ((Bl l d).map fun k=>(j+k,.it .i64 ((i+k:Nat):Int)))
 |[],_,_=>rfl
 | a::l,i,j=>by
  unfold E5 Cj Bl;by_cases h:dg a=d
  ·rw[if_pos h,show Fb (.st d) (.st (dg a))=some true by unfold Fb;rw[h];simp]
   simp
  ·rw[if_neg h,show Fb (.st d) (.st (dg a))=some false by unfold Fb;simp;exact fun e=>h e.symm]
   simp only
   rw[P0 d l (i+1) (j+1)];cases Bl l d with
   |none=>rfl
   |some k=>
    simp only[Option.map_some,Option.some.injEq,Prod.mk.injEq];exact⟨by omega,by rw[show i+1+k=i+(k+1) by omega]⟩
theorem Vu{d:By}:∀{l:List Ac.Act},d∉l.map dg→Bl l d=none
 |[],_=>rfl
 |a::l,h=>by
  rw[List.map_cons,List.mem_cons,not_or]at h;unfold Bl;rw[if_neg (fun e=>h.1 e.symm),Vu h.2]
  rfl
theorem LO(n:Nat):∀(l:List Ac.Act) (i:Nat),(SObj.map (E5 l i)).ok n=true
 |[],_=>rfl
 |a::l,i=>by
  have :=LO n l (i+1);show(List.all _ _)=true
  rw[E5,List.all_cons,Bool.and_eq_true];exact⟨rfl,this⟩
abbrev Rf(ps:List Int)(items:List AV)(id:By)(A K:List AV)(prev:By)(gen:Int)(fork:Bool)(cl:It.Claim)(won:Bool):SObj:=
 .cells [AP ps,.sl .ro items,.st id,.sl (.own 7) A,.sl (.own 8) K,.st prev,.it .i64 gen,.bo fork,.mp 2,.mp 3,.st cl.actor,.it .i64 cl.base,.st cl.prev,.it .i64 cl.gen,.it .i64 cl.home,.it .i64 cl.pub,.it .i64 cl.time,.it .i64 cl.sig.e,.it .i64 cl.sig.s,.bo won]
abbrev F4(ps:List Int)(items:List AV)(c:Chn)(cl:It.Claim)(won:Bool):SObj:=Rf ps items c.id (c.acts.map Am) (c.keys.map Bt) c.prev c.gen c.fork cl won
abbrev Mz(n:Nat):SObj:=.buf n 45 20
abbrev My(n:Nat):SObj:=.buf n 107 3
def D5(c:Chn)(a:Ac.Act):Chn:=
 { c with acts:=c.acts++[a],prev:=dg a,keys:=if a.kind=18 then c.keys++[⟨((c.acts.length+1:Nat):Int),a.n,a.m⟩]else c.keys }
theorem Zio{c:Chn}{a:Ac.Act}(h:a.kind≠0):D5 c a=Bz c a:=by
 unfold D5 Bz;by_cases h18:a.kind=18
 ·rw[if_pos h18,if_pos (.inl h18),if_neg h]
 ·rw[if_neg h18,if_neg (by rintro(e|e);exact h18 e;exact h e)]
section
variable (ps:List Int) (items:List AV) (cl:It.Claim) (won:Bool) (es:List Dt) (o0 o1 c5 c6:SObj)
theorem YI(c:Chn)(a:Ac.Act)(ha:Ac.right a=true)(hd:dg a∉c.acts.map dg)(hla:c.acts.length≤100)(hlk:c.keys.length≤200)(hit:items.all (AV.o2 0)=true∨True)
  (h0:o0.ok 9=true)(h1:o1.ok 9=true)(h2:(Dn es).ok 9=true)(h4:(F4 ps items (D5 c a) cl won).ok 9=true)(h5:c5.ok 9=true)(h6:c6.ok 9=true):
  AC prog 52 [.ptr 4 0,Am a] [o0,o1,Dn es,.map (E5 c.acts 0),F4 ps items c cl won,c5,c6,Mz c.acts.length,My c.keys.length] (.tup [])
   [o0,o1,Dn es,.map (E5 (D5 c a).acts 0),F4 ps items (D5 c a) cl won,c5,c6,Mz (D5 c a).acts.length,My (D5 c a).keys.length]:=by
 have iza:=Dp (act_signed ps ha).1;have k1:=P7 a (by have :=(Cp ha).to.1;omega) (by have :=(Cp ha).wraps.1;omega)
 have k2:=Ku (Ay a) iza;change AC _ _ _ _ (.st (dg a)) _ at k2;have hkf:=P0 (dg a) c.acts 0 0;rw[Vu hd]at hkf;change Cj _ _ _=some none at hkf;have hps:=Ua c.acts a 0;rw[Nat.zero_add]at hps;have hza:=BX c.acts;have hzk:=GK c.keys;have w1:IntKind.i64.wrap ((c.acts.length:Int)+1)=((c.acts.length+1:Nat):Int):=by rw[wrap64 (by omega) (by omega)];omega
 have hl1:(D5 c a).acts.length=c.acts.length+1:=by show(c.acts++[a]).length=_;simp
 have hA:(D5 c a).acts=c.acts++[a]:=rfl;have hok3:=LO 9 (c.acts++[a]) 0;by_cases hk:a.kind=18
 ·have hkt:(a.kind==18)=true:=beq_iff_eq.2 hk
  have hK:(D5 c a).keys=c.keys++[⟨((c.acts.length+1:Nat):Int),a.n,a.m⟩]:=if_pos hk;have hB:F4 ps items (D5 c a) cl won=Rf ps items c.id (c.acts.map Am++[Am a]) (c.keys.map Bt++[Bt (⟨((c.acts.length+1:Nat):Int),a.n,a.m⟩:Tp.KeyAt)]) (dg a) c.gen c.fork cl won:=by
   unfold F4;rw[hA,hK,List.map_append,List.map_append];rfl
  have hl2:(D5 c a).keys.length=c.keys.length+1:=by rw[hK];simp
  rw[hB]at h4 ⊢;rw[hl1,hl2,hA,hps];rw[hps]at hok3;generalize dg a=d at *;refine Ah [18,19] [] func52 ?_;refine Ab @hza ?_;refine cp k1 ?_;refine run ?_;refine cp k2 ?_;refine Ab (A4 @hkf @hkt @hzk @w1) ?_;refine CO ?_;simp only[List.all_cons,List.all_nil,List.length_cons,List.length_nil,Nat.reduceAdd,h0,h1,h2,h4,h5,h6,hok3];rfl
 ·have hkt:(a.kind==18)=false:=Cb hk
  have hK:(D5 c a).keys=c.keys:=if_neg hk;have hB:F4 ps items (D5 c a) cl won=Rf ps items c.id (c.acts.map Am++[Am a]) (c.keys.map Bt) (dg a) c.gen c.fork cl won:=by
   unfold F4;rw[hA,hK,List.map_append];rfl
  rw[hB]at h4 ⊢;rw[hl1,hK,hA,hps];rw[hps]at hok3;generalize dg a=d at *;refine Ah [18,19] [] func52 ?_;refine Ab @hza ?_;refine cp k1 ?_;refine run ?_;refine cp k2 ?_;refine Ab (A4 @hkf @hkt @hzk @w1) ?_;refine CO ?_;simp only[List.all_cons,List.all_nil,List.length_cons,List.length_nil,Nat.reduceAdd,h0,h1,h2,h4,h5,h6,hok3];rfl
end
end Pe
end
section
namespace Pe
open Tryz
open Go Go.RowKit
set_option maxRecDepth 100000
variable [Tab]
section
variable {P:Program}
theorem AC.pre{f:FuncId}{args:List AV}{S S':Ae}{v:AV}(h:AC P f args S v S')(T:Ae)(hl:S'.length=S.length)(hS:S.all (SObj.ok S.length)=true)(hS':S'.all (SObj.ok S.length)=true)(ha:args.all (AV.ok S.length)=true)(hv:v.ok S.length=true):
  AC P f args (S++T) v (S'++T):=by
 have hid:∀i,i<S.length→AH (List.range S.length) i=i:=fun i hi=>by simp[AH,hi]
 have hkl:(List.range S.length).length=S.length:=List.length_range;have hsub:SubOk (List.range S.length) (S++T) S:=⟨List.nodup_range,hkl.symm,fun i o hi=>by
  have hlt:=(List.getElem?_eq_some_iff.1 hi).1
  have ho:o.ok S.length=true:=List.all_eq_true.1 hS o (List.mem_of_getElem? hi);rw[hkl,hid i hlt];exact⟨ho,by rw[Nm ho hid,List.getElem?_append_left hlt];exact hi⟩⟩
 have hS2:∀(i:Nat) (o:SObj),S'[i]? = some o→o.ok S'.length=true:=fun i o hi=>by
  rw[hl];exact List.all_eq_true.1 hS' o (List.mem_of_getElem? hi)
 have q:=h.frame (T:=S++T) (List.range S.length) hsub (by rw[hkl];exact ha) (by rw[hl];exact hv) hS2
 have hext:∀i,i<S.length→ext (List.range S.length) (S++T).length i=i:=fun i hi=>by
  unfold ext;rw[hkl,if_pos hi];exact hid i hi
 have e1:args.map (AV.ren (AH (List.range S.length)))=args:=E8 (p:=AV.ok S.length) ha fun v hv=>DR hv hid
 have e2:v.ren (ext (List.range S.length) (S++T).length)=v:=DR hv hext;have e3:S'.map (fun o=>o.ren (ext (List.range S.length) (S++T).length))=S':=by
  rw[List.map_congr_left (g:=id) fun o ho=>?_,List.map_id]
  exact Nm (List.all_eq_true.1 hS' o ho) hext
 have e4:after (List.range S.length) (S++T) S'=S'++T:=by
  unfold after;rw[e3,hkl,List.drop_eq_nil_of_le (by omega),List.map_nil,List.append_nil]
  obtain⟨a1,a2,a3⟩:=ND (List.range S.length) (S++T) S' List.nodup_range (fun l hl'=>by
   rw[List.mem_range]at hl';rw[List.length_append];omega) (by rw[hkl];omega)
  refine List.ext_getElem? fun i=>?_
  by_cases hi:i<S.length
  ·have :=a2 i (by rw[hkl];exact hi)
   rw[hid i hi]at this;rw[this,List.getElem?_append_left (by omega)]
  ·rw[a3 i (by rw[List.mem_range];exact hi),List.getElem?_append_right (by omega),List.getElem?_append_right (by omega),hl]
 rw[e1,e2,e4]at q;exact q
end
end Pe
end
section
namespace Pe
open Tryz
open Go Go.RowKit Co Sg Ac It Sl Tp
set_option maxRecDepth 100000
set_option maxHeartbeats 8000000
theorem ZaD(k:Int):AC prog 192 [.it .i64 k] [] (.bo (IS k)) []:=by
 unfold IS;by_cases hk:k=4∨k=5∨k=7∨k=8∨k=10∨k=11∨k=17∨k=23
 ·rcases hk with rfl|rfl|rfl|rfl|rfl|rfl|rfl|rfl
  all_goals
   refine Ah [] [] func192 ?_;refine run ?_;exact Ad
 ·have q1:(k==4)=false:=Cb (by omega)
  have q2:(k==5)=false:=Cb (by omega)
  have q3:(k==7)=false:=Cb (by omega)
  have q4:(k==8)=false:=Cb (by omega)
  have q5:(k==10)=false:=Cb (by omega)
  have q6:(k==11)=false:=Cb (by omega)
  have q7:(k==17)=false:=Cb (by omega)
  have q8:(k==23)=false:=Cb (by omega)
  rw[q1,q2,q3,q4,q5,q6,q7,q8];refine Ah [] [] func192 ?_;refine Ab (A8 @q1 @q2 @q3 @q4 @q5 @q6 @q7 @q8) ?_;exact Ad
section
variable (ps:List Int) (items:List AV) (cl:It.Claim) (won:Bool) (es:List Dt) (o0 o1 c5 c6:SObj)
abbrev EW(ps:List Int)(items:List AV)(cl:It.Claim)(won:Bool)(es:List Dt)(o0 o1 c5 c6:SObj)(c:Chn):Ae:=
 [o0,o1,Dn es,.map (E5 c.acts 0),F4 ps items c cl won,c5,c6,Mz c.acts.length,My c.keys.length]
abbrev IL(ps:List Int)(items:List AV)(cl:It.Claim)(won:Bool)(es:List Dt)(o0 o1 c5 c6:SObj)(c:Chn):Ae:=
 [o0,o1,Dn es,.map (E5 c.acts 0),F4 ps items c cl won,c5,c6,Mz c.acts.length,My c.keys.length,.cells [.ptr 4 0]]
structure BOk(ps:List Int)(items:List AV)(cl:It.Claim)(won:Bool)(es:List Dt)(o0 o1 c5 c6:SObj)(c:Chn):Prop where
 o0:∀n,9≤n→o0.ok n=true
 o1:∀n,9≤n→o1.ok n=true
 es:∀n,(Dn es).ok n=true
 bld:∀(c:Chn) cl won n,9≤n→(F4 ps items c cl won).ok n=true
 c5:∀n,9≤n→c5.ok n=true
 c6:∀n,9≤n→c6.ok n=true
theorem BOk.st9{c:Chn}(h:BOk ps items cl won es o0 o1 c5 c6 c):(EW ps items cl won es o0 o1 c5 c6 c).all (SObj.ok 9)=true:=by
 simp only[List.all_cons,List.all_nil,h.o0 9 (Nat.le_refl _),h.o1 9 (Nat.le_refl _),h.es 9,LO 9 c.acts 0,h.bld c cl won 9 (Nat.le_refl _),h.c5 9 (Nat.le_refl _),h.c6 9 (Nat.le_refl _)];rfl
theorem BOk.st10{c:Chn}(h:BOk ps items cl won es o0 o1 c5 c6 c):(IL ps items cl won es o0 o1 c5 c6 c).all (SObj.ok 10)=true:=by
 simp only[List.all_cons,List.all_nil,h.o0 10 (by omega),h.o1 10 (by omega),h.es 10,LO 10 c.acts 0,h.bld c cl won 10 (by omega),h.c5 10 (by omega),h.c6 10 (by omega)]
 rfl
theorem Zdc(c:Chn)(d:By)(h:BOk ps items cl won es o0 o1 c5 c6 c):
  AC prog 117 [.st d,.ptr 9 0] (IL ps items cl won es o0 o1 c5 c6 c) (.tup [.it .i64 (((Bl c.acts d).getD 0:Nat):Int),.bo (Bl c.acts d).isSome]) (IL ps items cl won es o0 o1 c5 c6 c):=by
 have hok:=h.st10;have hf:=P0 d c.acts 0 0;unfold IL at hok ⊢;cases hi:Bl c.acts d with
 |none=>
  rw[hi]at hf;change Cj _ _ _=some none at hf;refine Ah [] [] func117 ?_;refine Ab @hf ?_;exact DD hok
 |some i=>
  rw[hi]at hf;simp only[Option.map_some,Nat.zero_add]at hf;show AC _ _ _ _ (.tup [.it .i64 (i:Int),.bo true]) _
  refine Ah [] [] func117 ?_;refine Ab @hf ?_;exact DD hok
end
end Pe
end
section
namespace Pe
open Tryz
open Go Go.RowKit Co Sg Ac It Sl Tp
set_option maxRecDepth 100000
set_option maxHeartbeats 4000000
abbrev oX(L:List By):SObj:=.ext (XS L)
theorem NC(L:List By)(s:By):AC prog 297 [.mp 0,.st s] [oX L] (.tup []) [oX (Ej L s)]:=by
 refine AC.hw (N:=6) func297 rfl (by decide) (Nat.le_of_ble_eq_true rfl) rfl ?_
 refine HW.reg (P:=prog) [] [] (by kernel_rfl) ?_
 refine JQ [_] [_,_] _ _ (FM (pf:=[]) (rf:=[]) [_,_] _ _ ?_)
 refine AD ?_
 refine run ?_;refine⟨_,_,Zgr (l:=0) (L:=L) (s:=s) (.inl rfl) underlying250 underlying9 (by rfl) (by rfl) (by rfl) (by rfl),?_⟩
 exact CO (by rfl)
theorem NB(L:List By)(s:By):AC prog 298 [.mp 0,.st s] [oX L] (.tup []) [oX (DZ L s)]:=by
 refine AC.hw (N:=6) func298 rfl (by decide) (Nat.le_of_ble_eq_true rfl) rfl ?_
 refine HW.reg (P:=prog) [] [] (by kernel_rfl) ?_
 refine JQ [_] [_,_] _ _ (FM (pf:=[]) (rf:=[]) [_,_] _ _ ?_)
 refine AD ?_
 refine run ?_;refine⟨_,_,Zgq (l:=0) (L:=L) (s:=s) (by rfl) underlying250 underlying9 (by rfl) (by rfl) (by rfl),?_⟩
 exact CO (by rfl)
theorem Zez{L:List By}{T:Ae}{l:Nat}(hT:T[l]? = some (oX L)):AC prog 302 [.mp l] T (.fn (.func 324) [] [.ptr T.length 0]) (T++[.cells [.mp l]]):=by
 have :=(Zey L).frame (T:=T) [l] (Lq l (by rfl) hT) rfl rfl (fun i o hi=>by
  match i,hi with
  |0,hi=>cases hi;rfl
  |1,hi=>cases hi;rfl)
 have e1:after [l] T [oX L,.cells [.mp 0]]=T++[.cells [.mp l]]:=by
  show T.set l (oX L)++_=_
  rw[IW hT];rfl
 rw[e1]at this;exact this
theorem Zbh{L:List By}{T:Ae}(l l':Nat)(hne:l≠l')(hl:L.length≤1000000)(hr:∀s∈L,s.length≤1000000)(hT:T[l]? = some (oX L))(hT':T[l']? = some (.cells [.mp l])):
  AC prog 301 [.fn (.func 324) [] [.ptr l' 0]] T (Av (ED L)) T:=by
 have hk:∀n,(Av (ED L)).ok n=true:=fun n=>Fx (n:=0) rfl (Nat.zero_le n)
 have :=(Zbg L hl hr).frame (T:=T) [l,l'] (Pp l l' hne (by rfl) rfl hT hT') rfl (hk 2) (fun i o hi=>by
  match i,hi with
  |0,hi=>cases hi;rfl
  |1,hi=>cases hi;rfl)
 have h2:(T.set l (oX L)).set l' (.cells [.mp l])=T:=by rw[IW hT,IW hT']
 rw[DR (show(AV.sl .ro ((L.mergeSort fun x y=>decide (x≤y)).map AV.st)).ok 0=true from hk 0) (fun i hi=>absurd hi (Nat.not_lt_zero _))]at this
 have e1:after [l,l'] T [oX L,.cells [.mp 0]]=T:=by
  show(T.set l (oX L)).set l' (.cells [.mp l])++[]=_
  rw[h2,List.append_nil]
 rw[e1]at this;exact this
theorem ZbD(L:List By)(hl:L.length≤1000000)(hr:∀s∈L,s.length≤1000000):AC prog 238 [.mp 0] [oX L] (Av (ED L)) [oX L]:=by
 refine Ah [] [] func238 ?_;refine run ?_;refine AZ (Zez (l:=0) (L:=L) rfl) ?_;refine run ?_;refine AZ (Zbh 0 1 (by decide) hl hr rfl rfl) ?_
 refine run ?_;exact Ov
abbrev Py:AV:=.agg [.mp 0,.mp 1,.mp 2,.mp 3]
abbrev Nz(t:Ties):Ae:=[oX t.follows,oX t.accepts,oX t.blocks,oX t.mutes]
theorem ZaE(t:Ties)(b:Ac.Act):AC prog 300 [Py,Am b] (Nz t) (.tup []) (Nz (DN t b)):=by
 have ka:=fun L=>NB L b.target
 unfold DN;by_cases k7:b.kind=7
 ·have q7:(b.kind==7)=true:=beq_iff_eq.2 k7
  rw[if_pos k7];refine Ah [] [] func300 ?_;refine Ab @q7 ?_;refine D4 0 (ka t.follows) ?_ (by rfl) (by rfl)
  refine run ?_;exact CO (by rfl)
 have q7:(b.kind==7)=false:=beq_eq_false_iff_ne.2 k7;rw[if_neg k7];by_cases k8:b.kind=8
 ·have q8:(b.kind==8)=true:=beq_iff_eq.2 k8
  rw[if_pos k8];refine Ah [] [] func300 ?_;refine Ab (an @q7 @q8) ?_;refine D4 1 (ka t.accepts) ?_ (by rfl) (by rfl)
  refine run ?_;exact CO (by rfl)
 have q8:(b.kind==8)=false:=beq_eq_false_iff_ne.2 k8;rw[if_neg k8];by_cases k10:b.kind=10
 ·have q10:(b.kind==10)=true:=beq_iff_eq.2 k10
  rw[if_pos k10];refine Ah [] [] func300 ?_;refine Ab (A3 @q7 @q8 @q10) ?_;refine D4 2 (ka t.blocks) ?_ (by rfl) (by rfl)
  refine run ?_;exact CO (by rfl)
 have q10:(b.kind==10)=false:=beq_eq_false_iff_ne.2 k10;rw[if_neg k10];by_cases k11:b.kind=11
 ·have q11:(b.kind==11)=true:=beq_iff_eq.2 k11
  rw[if_pos k11];refine Ah [] [] func300 ?_;refine Ab (A4 @q7 @q8 @q10 @q11) ?_;refine D4 3 (ka t.mutes) ?_ (by rfl) (by rfl)
  refine run ?_;exact CO (by rfl)
 have q11:(b.kind==11)=false:=beq_eq_false_iff_ne.2 k11;rw[if_neg k11];refine Ah [] [] func300 ?_;refine Ab (A4 @q7 @q8 @q10 @q11) ?_;exact CO (by rfl)
end Pe
end
section
namespace Pe
open Tryz
open Go Go.RowKit Co Sg Ac It Sl Tp
set_option maxRecDepth 100000
set_option maxHeartbeats 8000000
theorem Vw:∀(l:List Ac.Act) (d:By) (j:Nat),Bl l d=some j→j<l.length
 |[],_,_,h=>by cases h
 | a::l,d,j,h=>by
  unfold Bl at h;rw[List.length_cons];split at h
  ·cases h;omega
  ·obtain⟨i,hi,rfl⟩:=Option.map_eq_some_iff.1 h
   have :=Vw l d i hi;omega
theorem Zhs(c:Chn)(d:By)(hcl:c.acts.length≤1000)(hr:Bg c.acts):
  AC prog 299 [AG c,.st d] [] (.tup [.it .i64 (((Bl c.acts d).getD 0:Nat):Int),.bo (Bl c.acts d).isSome]) []:=by
 obtain⟨id,acts,keys,prev,gen,fork⟩:=c;simp only at hcl hr ⊢
 have hsz:=BX acts;generalize hI:Bl acts d=I;refine Ah [18,19] [] func299 ?_;refine run ?_;refine AN (fun m e S=>e 1=.st d∧e 9=Bu acts∧e 10=.it .i64 (acts.length:Int) ∧ ∃(k:Nat) (T:Ae),e 11=.it .i64 (k:Int)∧S=.cells [.st id,Bu acts,.sl .ro (keys.map Bt),.st prev,.it .i64 gen,.bo fork]::T∧I=(Bl (acts.drop k) d).map (· + k)∧k≤acts.length∧m=acts.length-k) acts.length ⟨Aa,Aa,Aa,0,[],Aa,rfl,by rw[←hI];simp,by omega,rfl⟩ ?_
 clear hI;rintro m e S ⟨s1,s9,s10,k,T,s11,rfl,hix,hk,rfl⟩
 have hT1:∀y:SObj,(T++[y])[T.length]? = some y:=fun y=>by simp
 have hT2:∀y z:SObj,(T++[y]).set T.length z=T++[z]:=fun y z=>by simp
 by_cases hlt:k<acts.length
 ·have hg:acts[k]? = some acts[k]:=List.getElem?_eq_getElem hlt
  have hlt':(k:Int)<(acts.length:Int):=by omega
  have w1:=AT (k:=k) (by omega)
  have hrr:=hr _ (List.getElem_mem hlt);have sm:=Cp hrr;have ko:=P7 acts[k] (by have :=sm.to.1;omega) (by have :=sm.wraps.1;omega)
  have kd:=Ku (Ay acts[k]) (Dp (act_signed [] hrr).1);change AC _ _ _ _ (.st (dg acts[k])) _ at kd;rw[List.drop_eq_getElem_cons hlt]at hix;unfold Bl at hix;generalize acts[k]=a at *;refine Ab (A9 @s1 @s9 @s10 @s11 @hlt' @hg @hsz @hT1 @hT2) ?_;refine cp ko ?_;refine Ab (A6 @s1 @s9 @s10 @s11 @hT1 @hT2) ?_;refine cp kd ?_;by_cases hd:dg a=d
  ·have q:(dg a==d)=true:=beq_iff_eq.2 hd
   rw[if_pos hd,Option.map_some,Nat.zero_add]at hix;subst hix;refine Ab (A7 @s1 @s9 @s10 @s11 @q @hT1 @hT2) ?_;exact Ad
  ·have q:(dg a==d)=false:=beq_eq_false_iff_ne.2 hd
   rw[if_neg hd]at hix;refine Ab (A8 @s1 @s9 @s10 @s11 @q @w1 @hT1 @hT2) ?_;exact Aj (acts.length-(k+1)) (by omega) ⟨Aa,Aa,Aa,k+1,_,Aa,rfl,by rw[hix,Option.map_map];congr 1;funext j;simp only[Function.comp];omega,by omega,rfl⟩
 ·obtain rfl:k=acts.length:=by omega
  rw[List.drop_length]at hix;obtain rfl:I=none:=hix;have hlt':¬(acts.length:Int)<(acts.length:Int):=by omega
  refine Ab (A5 @s1 @s9 @s10 @s11 @hlt') ?_;exact Ad
structure SetOk(L:List By)(n:Nat):Prop where
 len:L.length≤n
 el:∀s∈L,s.length≤16
theorem SetOk.add{L:List By}{n:Nat}(h:SetOk L n){s:By}(hs:s.length≤16):SetOk (Ej L s) (n+1):=by
 unfold Ej;split
 ·exact⟨Nat.le_succ_of_le h.len,h.el⟩
 ·refine⟨by rw[List.length_append];exact Nat.succ_le_succ h.len,fun x hx=>?_⟩
  rcases List.mem_append.1 hx with hx|hx
  ·exact h.el x hx
  ·rw[List.mem_singleton.1 hx];exact hs
theorem SetOk.del{L:List By}{n:Nat}(h:SetOk L n)(s:By):SetOk (DZ L s) (n+1):=
 ⟨Nat.le_succ_of_le (Nat.le_trans (List.length_filter_le _ _) h.len),fun x hx=>h.el x (List.mem_filter.1 hx).1⟩
theorem SetOk.up{L:List By}{n:Nat}(h:SetOk L n):SetOk L (n+1):=⟨Nat.le_succ_of_le h.len,h.el⟩
structure SetsOk(t:Ties)(n:Nat):Prop where
 f:SetOk t.follows n
 a:SetOk t.accepts n
 b:SetOk t.blocks n
 m:SetOk t.mutes n
theorem Tb{acts:List Ac.Act}(hr:Bg acts):∀n,n≤acts.length→SetsOk (Eb acts n) n
 |0,_=>⟨⟨Nat.le_refl _,by simp[Eb]⟩,⟨Nat.le_refl _,by simp[Eb]⟩,⟨Nat.le_refl _,by simp[Eb]⟩,⟨Nat.le_refl _,by simp[Eb]⟩⟩
 | n +1,h=>by
  obtain⟨h1,h2,h3,h4⟩:=Tb hr n (by omega)
  have ht:((acts.getD n Al).target).length≤16:=by
   rw[List.getD_eq_getElem?_getD,List.getElem?_eq_getElem (by omega)]
   exact(Cp (hr _ (List.getElem_mem (by omega)))).target
  unfold Eb IT;generalize acts.getD n Al=a at *;split
  ·exact⟨h1.add ht,h2.up,h3.up,h4.up⟩
  split
  ·exact⟨h1.up,h2.add ht,h3.up,h4.up⟩
  split
  ·exact⟨h1.up,h2.del _,h3.up,h4.up⟩
  split
  ·exact⟨h1.del _,h2.del _,h3.add ht,h4.up⟩
  split
  ·exact⟨h1.up,h2.up,h3.up,h4.add ht⟩
  split
  ·split
   ·exact⟨h1.up,h2.up,h3.up,h4.up⟩
   ·split
    ·exact⟨h1.up,h2.up,h3.up,h4.up⟩
    ·unfold DN
     split
     ·exact⟨h1.del _,h2.up,h3.up,h4.up⟩
     split
     ·exact⟨h1.up,h2.del _,h3.up,h4.up⟩
     split
     ·exact⟨h1.up,h2.up,h3.del _,h4.up⟩
     split
     ·exact⟨h1.up,h2.up,h3.up,h4.del _⟩
     ·exact⟨h1.up,h2.up,h3.up,h4.up⟩
  ·exact⟨h1.up,h2.up,h3.up,h4.up⟩
end Pe
end
section
namespace Pe
open Tryz
open Go Go.RowKit Co Sg Ac It Sl Tp
set_option maxRecDepth 100000
set_option maxHeartbeats 8000000
theorem AC.news{P:Program}[Tab]{f:FuncId}{args:List AV}{S':Ae}{v:AV}(h:AC P f args [] v S')(T:Ae)(ha:args.all (AV.ok 0)=true)(hv:v.ok S'.length=true)(hS:S'.all (SObj.ok S'.length)=true):
  AC P f args T (v.ren (ext [] T.length)) (T++S'.map (SObj.ren (ext [] T.length))):=by
 have q:=h.frame (T:=T) [] ⟨by simp,rfl,fun i o hi=>by simp at hi⟩ ha hv (fun i o hi=>List.all_eq_true.1 hS o (List.mem_of_getElem? hi))
 rw[PL ha]at q;have e:after [] T S'=T++S'.map (SObj.ren (ext [] T.length)):=by
  unfold after;rw[E1];rfl
 rw[e]at q;exact q
theorem ZaF(t:Ties)(b:Ac.Act)(A B:SObj)(R:Ae):AC prog 300 [.agg [.mp 2,.mp 3,.mp 4,.mp 5],Am b] (A::B::oX t.follows::oX t.accepts::oX t.blocks::oX t.mutes::R) (.tup [])
  (A::B::oX (DN t b).follows::oX (DN t b).accepts::oX (DN t b).blocks::oX (DN t b).mutes::R):=by
 have q:=(ZaE t b).frame (T:=A::B::oX t.follows::oX t.accepts::oX t.blocks::oX t.mutes::R) [2,3,4,5] ⟨by decide,rfl,fun i o hi=>by
  match i,hi with
  |0,hi=>cases hi;exact⟨rfl,rfl⟩
  |1,hi=>cases hi;exact⟨rfl,rfl⟩
  |2,hi=>cases hi;exact⟨rfl,rfl⟩
  |3,hi=>cases hi;exact⟨rfl,rfl⟩⟩ rfl rfl (fun i o hi=>by
  match i,hi with
  |0,hi=>cases hi;rfl
  |1,hi=>cases hi;rfl
  |2,hi=>cases hi;rfl
  |3,hi=>cases hi;rfl)
 rw[show List.map (AV.ren (AH [2,3,4,5])) [Py,Am b]=[.agg [.mp 2,.mp 3,.mp 4,.mp 5],Am b] by rw[List.map_cons,List.map_cons,JS (v:=Am b) rfl];rfl]at q
 have e1:after [2,3,4,5] (A::B::oX t.follows::oX t.accepts::oX t.blocks::oX t.mutes::R) (Nz (DN t b))=A::B::oX (DN t b).follows::oX (DN t b).accepts::oX (DN t b).blocks::oX (DN t b).mutes::R:=by
  show(A::B::oX (DN t b).follows::oX (DN t b).accepts::oX (DN t b).blocks::oX (DN t b).mutes::R)++[]=_
  rw[List.append_nil]
 rw[e1]at q;exact q
theorem NA{L:List By}(hl:L.length≤1000000)(hr:∀s∈L,s.length≤1000000){T:Ae}{l:Nat}(hT:T[l]? = some (oX L)):AC prog 238 [.mp l] T (Av (ED L)) T:=by
 have q:=(ZbD L hl hr).at1 (T:=T) l hT rfl (Fx (n:=0) rfl (Nat.zero_le 1)) rfl rfl;rw[JS (v:=Av (ED L)) rfl]at q;have e:T.set l ((oX L).ren (ext [l] T.length))=T:=IW hT;rw[e]at q;exact q
abbrev ZaM(id prev:By)(acts:List Ac.Act)(keys:List Tp.KeyAt)(gen:Int)(fork:Bool)(t:Ties)(T:Ae):Ae:=
 .cells [.st id,Bu acts,.sl .ro (keys.map Bt),.st prev,.it .i64 gen,.bo fork]::.cells [.ot (.map none),.ot (.map none),.ot (.map none),.ot (.map none)]::oX t.follows::oX t.accepts::oX t.blocks::oX t.mutes::.cells [.mp 2,.mp 3,.mp 4,.mp 5]::T
theorem ZaL(c:Chn)(n:Nat)(hn:n≤c.acts.length)(hcl:c.acts.length≤1000)(hr:Bg c.acts):
  AC prog 237 [AG c,.it .i64 (n:Int)] [] Py (Nz (Eb c.acts n)):=by
 have kx:=fun d=>Zhs c d hcl hr
 have hixl:=fun d j=>Vw c.acts d j
 obtain⟨id,acts,keys,prev,gen,fork⟩:=c;simp only at hn hcl hr kx hixl ⊢
 have hsz:=BX acts;have hst:∀k (h:k<acts.length),Eb acts (k+1)=IT (Eb acts k) acts k acts[k]:=fun k h=>by
  show IT _ _ _ (acts.getD k Al)=_
  rw[List.getD_eq_getElem?_getD,List.getElem?_eq_getElem h]
  rfl
 have hA:(if(0:Int)>(n:Int)then(0:Int)else(n:Int))=(n:Int):=if_neg (by omega)
 have hB:(if(acts.length:Int)<(n:Int)then(acts.length:Int)else(n:Int))=(n:Int):=if_neg (by omega)
 have hlen:((acts.take n).length:Int)=(n:Int):=by rw[List.length_take];omega
 refine Ah [299] [] func237 ?_;refine Ab (A4 @hA @hB @hlen @hsz) ?_;refine Cq (fun m e S=>e 2=.ptr 0 0∧e 4=.ptr 1 0∧e 5=.ptr 6 0∧e 24=Bu (acts.take n)∧e 25=.it .i64 (n:Int) ∧ ∃(k:Nat) (T:Ae),e 26=.it .i64 (k:Int)∧S=ZaM id prev acts keys gen fork (Eb acts k) T∧k≤n∧m=n-k) n _ _ (Ao.trans2 (Ao.mapS 0 2 (by rfl)) (Ao.trans2 (Ao.mapS 0 3 (by rfl)) (Ao.trans2 (Ao.mapS 0 4 (by rfl)) (Ao.mapS 0 5 (by rfl)))))
  ⟨Aa,Aa,Aa,Aa,Aa,0,[],Aa,rfl,by omega,rfl⟩ ?_
 rintro m e S ⟨s2,s4,s5,s24,s25,k,T,s26,rfl,hk,rfl⟩
 rw[Db s4];have hT1:∀y:SObj,(T++[y])[T.length]? = some y:=fun y=>by simp
 have hT2:∀y z:SObj,(T++[y]).set T.length z=T++[z]:=fun y z=>by simp
 have w1:=AT (k:=k) (by omega)
 by_cases hlt:k<n
 rotate_left
 ·obtain rfl:k=n:=by omega
  have hlt':¬(k:Int)<(k:Int):=by omega
  generalize Eb acts k=t at *;refine Ab (A7 @s2 @s4 @s5 @s24 @s25 @s26 @hlt') ?_;exact QW [2,3,4,5] (by rfl) ⟨by decide,rfl,fun i o hi=>by
   match i,hi with
   |0,hi=>cases hi;exact⟨rfl,rfl⟩
   |1,hi=>cases hi;exact⟨rfl,rfl⟩
   |2,hi=>cases hi;exact⟨rfl,rfl⟩
   |3,hi=>cases hi;exact⟨rfl,rfl⟩⟩ (by rfl) (by rfl) (by rfl)
 have hka:k<acts.length:=by omega
 have hlt':(k:Int)<(n:Int):=by omega
 have hg:(acts.take n)[k]? = some acts[k]:=by
  rw[List.getElem?_take_of_lt hlt,List.getElem?_eq_getElem hka]
 have hszt:=BX (acts.take n);have hs:=hst k hka;generalize Eb acts k=t at *;generalize acts[k]=a at *;have kix:=kx a.object;unfold IT at hs;by_cases k7:a.kind=7
 ·have q7:(a.kind==7)=true:=beq_iff_eq.2 k7
  rw[if_pos k7]at hs;refine Ab (an @s2 (An @s4 @s5 @s24 @s25 @s26 @hlt' @hg @hszt @hT1 @hT2 @q7)) ?_;refine D4 2 (NC t.follows a.target) ?_ (by rfl) (by rfl)
  refine Ab (A9 @s2 @s4 @s5 @s24 @s25 @s26 @hT1 @hT2 @w1) ?_;exact Aj (n-(k+1)) (by omega) ⟨Aa,Aa,Aa,Aa,Aa,k+1,_,Aa,by rw[hs],by omega,rfl⟩
 have q7:(a.kind==7)=false:=beq_eq_false_iff_ne.2 k7;rw[if_neg k7]at hs;by_cases k8:a.kind=8
 ·have q8:(a.kind==8)=true:=beq_iff_eq.2 k8
  rw[if_pos k8]at hs;refine Ab (an @s2 (an @s4 (An @s5 @s24 @s25 @s26 @hlt' @hg @hszt @hT1 @hT2 @q7 @q8))) ?_;refine D4 3 (NC t.accepts a.target) ?_ (by rfl) (by rfl)
  refine Ab (A9 @s2 @s4 @s5 @s24 @s25 @s26 @hT1 @hT2 @w1) ?_;exact Aj (n-(k+1)) (by omega) ⟨Aa,Aa,Aa,Aa,Aa,k+1,_,Aa,by rw[hs],by omega,rfl⟩
 have q8:(a.kind==8)=false:=beq_eq_false_iff_ne.2 k8;rw[if_neg k8]at hs;by_cases k9:a.kind=9
 ·have q9:(a.kind==9)=true:=beq_iff_eq.2 k9
  rw[if_pos k9]at hs;refine Ab (an @s2 (an @s4 (an @s5 (An @s24 @s25 @s26 @hlt' @hg @hszt @hT1 @hT2 @q7 @q8 @q9)))) ?_;refine D4 3 (NB t.accepts a.target) ?_ (by rfl) (by rfl)
  refine Ab (A9 @s2 @s4 @s5 @s24 @s25 @s26 @hT1 @hT2 @w1) ?_;exact Aj (n-(k+1)) (by omega) ⟨Aa,Aa,Aa,Aa,Aa,k+1,_,Aa,by rw[hs],by omega,rfl⟩
 have q9:(a.kind==9)=false:=beq_eq_false_iff_ne.2 k9;rw[if_neg k9]at hs;by_cases k10:a.kind=10
 ·have q10:(a.kind==10)=true:=beq_iff_eq.2 k10
  rw[if_pos k10]at hs;refine Ab (an @s2 (an @s4 (an @s5 (an @s24 (An @s25 @s26 @hlt' @hg @hszt @hT1 @hT2 @q7 @q8 @q9 @q10))))) ?_;refine D4 4 (NC t.blocks a.target) ?_ (by rfl) (by rfl)
  refine Ab (A9 @s2 @s4 @s5 @s24 @s25 @s26 @hT1 @hT2 @w1) ?_;refine D4 2 (NB t.follows a.target) ?_ (by rfl) (by rfl)
  refine Ab (A9 @s2 @s4 @s5 @s24 @s25 @s26 @hT1 @hT2 @w1) ?_;refine D4 3 (NB t.accepts a.target) ?_ (by rfl) (by rfl)
  refine Ab (A9 @s2 @s4 @s5 @s24 @s25 @s26 @hT1 @hT2 @w1) ?_;exact Aj (n-(k+1)) (by omega) ⟨Aa,Aa,Aa,Aa,Aa,k+1,_,Aa,by rw[hs],by omega,rfl⟩
 have q10:(a.kind==10)=false:=beq_eq_false_iff_ne.2 k10;rw[if_neg k10]at hs;by_cases k11:a.kind=11
 ·have q11:(a.kind==11)=true:=beq_iff_eq.2 k11
  rw[if_pos k11]at hs;refine Ab (an @s2 (an @s4 (an @s5 (an @s24 (an @s25 (An @s26 @hlt' @hg @hszt @hT1 @hT2 @q7 @q8 @q9 @q10 @q11)))))) ?_;refine D4 5 (NC t.mutes a.target) ?_ (by rfl) (by rfl)
  refine Ab (A9 @s2 @s4 @s5 @s24 @s25 @s26 @hT1 @hT2 @w1) ?_;exact Aj (n-(k+1)) (by omega) ⟨Aa,Aa,Aa,Aa,Aa,k+1,_,Aa,by rw[hs],by omega,rfl⟩
 have q11:(a.kind==11)=false:=beq_eq_false_iff_ne.2 k11;rw[if_neg k11]at hs;by_cases k6:a.kind=6
 ·have q6:(a.kind==6)=true:=beq_iff_eq.2 k6
  rw[if_pos k6]at hs;cases hix:Bl acts a.object with
  |none=>
   rw[hix]at hs kix;refine Ab (an @s2 (an @s4 (an @s5 (an @s24 (an @s25 (an @s26 (An @hlt' @hg @hszt @hT1 @hT2 @q7 @q8 @q9 @q10 @q11 @q6))))))) ?_;refine cp kix ?_;refine Ab (A9 @s2 @s4 @s5 @s24 @s25 @s26 @hT1 @hT2 @w1) ?_;exact Aj (n-(k+1)) (by omega) ⟨Aa,Aa,Aa,Aa,Aa,k+1,_,Aa,by rw[hs],by omega,rfl⟩
  | some j=>
   have hjl:=hixl _ _ hix;rw[hix]at hs kix;simp only at hs
   change AC _ _ _ _ (.tup [.it .i64 (j:Int),.bo true]) _ at kix;by_cases hij:k≤j
   ·rw[if_pos hij]at hs
    have hij':¬(j:Int)<(k:Int):=by omega
    refine Ab (an @s2 (an @s4 (an @s5 (an @s24 (an @s25 (an @s26 (An @hlt' @hg @hszt @hT1 @hT2 @q7 @q8 @q9 @q10 @q11 @q6))))))) ?_;refine cp kix ?_;refine Ab (BZ @s2 @s4 @s5 @s24 @s25 @s26 @hij' @hT1 @hT2 @w1) ?_;exact Aj (n-(k+1)) (by omega) ⟨Aa,Aa,Aa,Aa,Aa,k+1,_,Aa,by rw[hs],by omega,rfl⟩
   ·rw[if_neg hij]at hs
    have hij':(j:Int)<(k:Int):=by omega
    have hgj:acts[j]? = some (acts.getD j Al):=by
     rw[List.getD_eq_getElem?_getD,List.getElem?_eq_getElem hjl]
     rfl
    have h0j:(0:Int)≤(j:Int):=by omega
    generalize acts.getD j Al=b at *;refine Ab (an @s2 (an @s4 (an @s5 (an @s24 (an @s25 (an @s26 (An @hlt' @hg @hszt @hT1 @hT2 @q7 @q8 @q9 @q10 @q11 @q6))))))) ?_;refine cp kix ?_;refine Ab (an @s2 (an @s4 (An @s5 @s24 @s25 @s26 @hij' @hT1 @hT2 @w1 @hgj @h0j @hsz))) ?_;refine AZ (ZaF t b _ _ _) ?_;refine Ab (A9 @s2 @s4 @s5 @s24 @s25 @s26 @hT1 @hT2 @w1) ?_;exact Aj (n-(k+1)) (by omega) ⟨Aa,Aa,Aa,Aa,Aa,k+1,_,Aa,by rw[hs],by omega,rfl⟩
 have q6:(a.kind==6)=false:=beq_eq_false_iff_ne.2 k6;rw[if_neg k6]at hs;refine Ab (an @s2 (an @s4 (an @s5 (an @s24 (an @s25 (an @s26 (an @hlt' (An @hg @hszt @hT1 @hT2 @q7 @q8 @q9 @q10 @q11 @q6 @w1)))))))) ?_;exact Aj (n-(k+1)) (by omega) ⟨Aa,Aa,Aa,Aa,Aa,k+1,_,Aa,by rw[hs],by omega,rfl⟩
theorem OF{pf rf:List FuncId}{e:Af}{d:Option Nat}{rest:List AO}{K:Af→Ae→Prop}{gargs:List AV}{L F:List By}{T:Ae}(l:Nat)(h:∀T:Ae,T[l]? = some (oX L)→AC prog 238 [.mp l] T (Av F) T)(h':BA prog pf rf rest (put e d (Av F)) T K)
  (hT:T[l]? = some (oX L):=by rfl)(hg:gargs.map AV.wk=[.mp l]:=by rfl):DG (MO prog 238 gargs T) (F8 prog pf rf d rest e K):=
 AZ (show(∀R,AC prog 238 (gargs.map AV.wk) (T++R) (Av F) (T++R))∧T=T from⟨fun R=>by rw[hg];exact h _ (Jo hT R),rfl⟩) h'
theorem Zcy(c:Chn)(n:Nat)(hn:n≤c.acts.length)(hcl:c.acts.length≤1000)(hr:Bg c.acts):
  AC prog 143 [AG c,.it .i64 (n:Int)] [] (Nc (Cm c n)) []:=by
 have kt:=ZaL c n hn hcl hr;obtain⟨o1,o2,o3,o4⟩:=Tb hr n hn;have hV:Cm c n=Nn (Eb c.acts n):=by
  rw[Zbf c.acts hn];unfold Cm;rw[Nat.min_eq_left hn]
 rw[hV];unfold Nn;have b:∀{L:List By},SetOk L n→L.length≤1000000 ∧ ∀s∈L,s.length≤1000000:=fun h=>⟨by have :=h.len;omega,fun s hs=>by have :=h.el s hs;omega⟩
 have l1:=fun(T:Ae) (l:Nat)=>NA (T:=T) (l:=l) (b o1).1 (b o1).2
 have l2:=fun(T:Ae) (l:Nat)=>NA (T:=T) (l:=l) (b o2).1 (b o2).2
 have l3:=fun(T:Ae) (l:Nat)=>NA (T:=T) (l:=l) (b o3).1 (b o3).2
 have l4:=fun(T:Ae) (l:Nat)=>NA (T:=T) (l:=l) (b o4).1 (b o4).2
 obtain⟨id,acts,keys,prev,gen,fork⟩:=c;simp only at hn hcl hr kt l1 l2 l3 l4 ⊢
 clear hV o1 o2 o3 o4 b;generalize Eb acts n=t at *;obtain⟨tf,ta,tb,tm⟩:=t;simp only at kt l1 l2 l3 l4 ⊢
 generalize ED tf=F at *;generalize ED ta=A at *;generalize ED tb=B at *;generalize ED tm=M at *;have kt2:∀c1 c2:SObj,AC prog 237 [AG ⟨id,acts,keys,prev,gen,fork⟩,.it .i64 (n:Int)] [c1,c2] (.agg [.mp 2,.mp 3,.mp 4,.mp 5]) [c1,c2,oX tf,oX ta,oX tb,oX tm]:=fun c1 c2=>AC.news kt [c1,c2] (by rfl) (by rfl) (by rfl)
 refine Ah [] [238] func143 ?_;refine run ?_;refine AZ (kt2 _ _) ?_;refine run ?_;refine OF 2 (fun T=>l1 T 2) ?_
 refine run ?_;refine OF 3 (fun T=>l2 T 3) ?_
 refine run ?_;refine OF 4 (fun T=>l3 T 4) ?_
 refine run ?_;refine OF 5 (fun T=>l4 T 5) ?_
 refine run ?_;exact Au
end Pe
end
section
namespace Pe
open Tryz
open Go Go.RowKit Co Sg Ac It Sl Tp
set_option maxRecDepth 100000
set_option maxHeartbeats 4000000
theorem Zhr(c:Chn)(i:Nat)(hl:c.acts.length≤1000)(hk:c.keys.length≤1000)(hi:i≤1000):AC prog 79 [AG c,.it .i64 (i:Int)] [] (.tup [Bt (CI c i).1,.bo (CI c i).2]) []:=by
 obtain⟨id,acts,keys,prev,gen,fork⟩:=c;simp only at hl hk
 have hsz:=GK keys;have h0:¬(i:Int)<0:=by omega
 unfold CI;simp only
 by_cases h1:acts.length<i
 ·have h1':(i:Int)>(acts.length:Int):=by omega
  rw[if_pos h1];refine Ah [] [] func79 ?_;refine Ab (an @h0 @h1') ?_;exact Ad
 ·have h1':¬(i:Int)>(acts.length:Int):=by omega
  rw[if_neg h1];have w0:IntKind.i64.wrap ((keys.length:Int)-1)=(keys.length:Int)-1:=wrap64 (by omega) (by omega)
  refine Ah [] [] func79 ?_;refine Ab (A3 @h0 @h1' @w0) ?_;refine AN (fun m e S=>e 1=.it .i64 (i:Int)∧e 2=.ptr 0 0∧e 4=.ptr 1 0∧S=[.cells [.st id,Bu acts,.sl .ro (keys.map Bt),.st prev,.it .i64 gen,.bo fork],.cells [.it .i64 0,.it .i64 0,.it .i64 0]] ∧ ∃j:Nat,e 6=.it .i64 ((j:Int)-1)∧j≤keys.length∧keys.reverse.find? (fun k=>decide (k.frm≤(i:Int)))=(keys.take j).reverse.find? (fun k=>decide (k.frm≤(i:Int)))∧m=j) keys.length ⟨Aa,Aa,Aa,rfl,keys.length,Aa,Nat.le_refl _,by rw[List.take_length],rfl⟩ ?_
  rintro m e S ⟨s1,s2,s4,rfl,j,s6,hj,hf,rfl⟩
  rw[Db s4];cases m with
  |zero=>
   have hn:¬(((0:Nat):Int)-1)≥0:=by omega
   have hv:keys.reverse.find? (fun k=>decide (k.frm≤(i:Int)))=none:=hf
   rw[hv];refine Ab (A5 @s1 @s2 @s4 @s6 @hn) ?_;exact Ad
  | succ j=>
   have hjl:j<keys.length:=by omega
   have hg:keys[j]? = some keys[j]:=List.getElem?_eq_getElem hjl
   have ej:(((j+1:Nat):Int)-1)=(j:Int):=by omega
   have hp:(j:Int)≥0:=by omega
   rw[ej]at s6;have htk:(keys.take (j+1)).reverse=keys[j]::(keys.take j).reverse:=by rw[List.take_succ_eq_append_getElem hjl,List.reverse_append];rfl
   rw[htk,List.find?_cons]at hf
   have w1:IntKind.i64.wrap ((j:Int)-1)=(j:Int)-1:=wrap64 (by omega) (by omega)
   generalize keys[j]=k at *;by_cases hle:k.frm≤(i:Int)
   ·rw[decide_eq_true hle]at hf
    have hv:keys.reverse.find? (fun k=>decide (k.frm≤(i:Int)))=some k:=hf
    rw[hv];refine Ab (A8 @s1 @s2 @s4 @s6 @hp @hg @hsz @hle) ?_;exact Ad
   ·rw[decide_eq_false hle]at hf
    refine Ab (A9 @s1 @s2 @s4 @s6 @hp @hg @hsz @hle @w1) ?_;exact Aj j (by omega) ⟨Aa,Aa,Aa,rfl,j,Aa,by omega,hf,rfl⟩
abbrev XI:Chn:=⟨[],[],[],[],0,false⟩
def Oo:Option Chn→AV
 |some c=>.tup [AG c,.bo true]
 |none=>.tup [AG XI,.bo false]
theorem XH(L:List Chn):AK 6 (L.map AG)=true:=BG 6 AG (fun _=>rfl) _
theorem Zht(L:List Chn)(id:By)(hl:L.length≤1000):AC prog 12 [.sl .ro (L.map AG),.st id] [] (Oo (L.find? fun c=>c.id==id)) []:=by
 have hsz:=XH L;have hstep:∀k (h:k<L.length),(L.drop k).find? (fun c=>c.id==id)=if(L[k].id==id)=true then some L[k]else(L.drop (k+1)).find? fun c=>c.id==id:=fun k h=>by
  rw[List.drop_eq_getElem_cons h,List.find?_cons]
  cases(L[k].id==id)<;>rfl
 generalize hF:L.find? (fun c=>c.id==id)=F
 refine Ah [] [] func12 ?_;refine run ?_;refine AN (fun m e S=>e 1=.st id∧e 4=.ptr 0 0∧e 8=.sl .ro (L.map AG)∧e 9=.it .i64 (L.length:Int) ∧ ∃(k:Nat) (T:Ae),e 10=.it .i64 (k:Int)∧S=.cells [.st [],.sl .full [],.sl .full [],.st [],.it .i64 0,.bo false]::T∧(L.drop k).find? (fun c=>c.id==id)=F∧k≤L.length∧m=L.length-k) L.length ⟨Aa,Aa,Aa,Aa,0,[],Aa,rfl,hF,by omega,rfl⟩ ?_
 rintro m e S ⟨s1,s4,s8,s9,k,T,s10,rfl,hf,hk,rfl⟩
 rw[Db s4];have hT1:∀y:SObj,(T++[y])[T.length]? = some y:=fun y=>by simp
 have hT2:∀y z:SObj,(T++[y]).set T.length z=T++[z]:=fun y z=>by simp
 by_cases hlt:k<L.length
 ·have hg:L[k]? = some L[k]:=List.getElem?_eq_getElem hlt
  have hlt':(k:Int)<(L.length:Int):=by omega
  have w1:=AT (k:=k) (by omega)
  rw[hstep k hlt]at hf;generalize L[k]=c at *;cases q:(c.id==id)with
  |true=>
   rw[q,if_pos rfl]at hf;subst hf;refine Ab (An @s1 @s4 @s8 @s9 @s10 @hlt' @hg @hsz @hT1 @hT2 @q) ?_;exact Au
  |false=>
   rw[q,if_neg (by decide)]at hf
   refine Ab (an @s1 (An @s4 @s8 @s9 @s10 @hlt' @hg @hsz @hT1 @hT2 @q @w1)) ?_;exact Aj (L.length-(k+1)) (by omega) ⟨Aa,Aa,Aa,Aa,k+1,_,Aa,rfl,hf,by omega,rfl⟩
 ·obtain rfl:k=L.length:=by omega
  rw[List.drop_length]at hf;subst hf;have hlt':¬(L.length:Int)<(L.length:Int):=by omega
  refine Ab (A6 @s1 @s4 @s8 @s9 @s10 @hlt') ?_;exact Au
theorem Zee(c:Chn)(n:Nat)(hn:n≤c.acts.length):AC prog 144 [AG c,.it .i64 (n:Int)] [] (.it .i64 (n:Int)) []:=by
 have hA:(if(0:Int)>(n:Int)then(0:Int)else(n:Int))=(n:Int):=if_neg (by omega)
 have hB:(if(c.acts.length:Int)<(n:Int)then(c.acts.length:Int)else(n:Int))=(n:Int):=if_neg (by omega)
 refine Ah [] [] func144 ?_;refine Ab (an @hA @hB) ?_;exact Ad
theorem XK(c:Chn)(n:Nat)(hcl:c.acts.length≤500)(hn:n≤c.acts.length):AC prog 78 [AG c,.it .i64 (n:Int),.it .i64 1,.st []] [] (.tup [.it .i64 ((Bb c n).1:Nat),.bo (Bb c n).2]) []:=by
 have hsz:=BX c.acts;have hin:=Kn c.acts;have hsu:=QE c.acts;have kl:=Zee c n hn;have hmn:min n c.acts.length=n:=by omega
 show AC _ _ _ _ (.tup [.it .i64 (((Bm c.acts (min n c.acts.length)).1:Nat):Int),.bo (decide (0<(Bm c.acts (min n c.acts.length)).2))]) _
 rw[hmn];refine Ah [144] [] func78 ?_;refine run ?_;refine cp kl ?_;refine run ?_;refine AN (fun m e S=>e 2=.it .i64 1∧e 3=.st []∧e 4=.ptr 0 0∧e 16=.it .i64 (n:Int) ∧ ∃(i:Nat) (T:Ae),e 17=.it .i64 (i:Int)∧e 10=.it .i64 ((Bm c.acts i).1:Nat)∧e 11=.it .i64 (Bm c.acts i).2∧S=.cells [.st c.id,Bu c.acts,.sl .ro (c.keys.map Bt),.st c.prev,.it .i64 c.gen,.bo c.fork]::T∧i≤n∧m=n-i) n ⟨Aa,Aa,Aa,Aa,0,[],Aa,Aa,Aa,rfl,by omega,rfl⟩ ?_
 rintro m e S ⟨s2,s3,s4,s16,i,T,s17,s10,s11,rfl,hi,rfl⟩
 have hT1:∀y:SObj,(T++[y])[T.length]? = some y:=fun y=>by simp
 have hT2:∀y z:SObj,(T++[y]).set T.length z=T++[z]:=fun y z=>by simp
 have hr:=hin i;by_cases hlt:i<n
 ·have h1:(i:Int)<(n:Int):=by omega
  have h2:(i:Int)<(c.acts.length:Int):=by omega
  have h3:(0:Int)≤(i:Int):=by omega
  have w1:=AT (k:=i) (by omega)
  have hg:c.acts[i]? = some (c.acts.getD i Al):=by rw[List.getD_eq_getElem?_getD,List.getElem?_eq_getElem (by omega)];rfl
  have hs:=hsu i;generalize c.acts.getD i Al=a at *;generalize Bm c.acts i=r at *;obtain⟨r1,r2⟩:=r;simp only at hs hr s10 s11
  by_cases c1:a.kind=16
  rotate_left
  ·have q1:(a.kind==16)=false:=beq_eq_false_iff_ne.2 c1
   rw[if_neg (fun h=>c1 h.1)]at hs
   refine Ab (an @s2 (an @s3 (an @s4 (an @s16 (an @s17 (An @s10 @s11 @h1 @h2 @h3 @hg @hsz @hT1 @hT2 @q1 @w1)))))) ?_;exact Aj (n-(i+1)) (by omega) ⟨Aa,Aa,Aa,Aa,i+1,_,Aa,by rw[hs];exact Aa,by rw[hs];exact Aa,rfl,by omega,rfl⟩
  have q1:(a.kind==16)=true:=beq_iff_eq.2 c1;by_cases c2:a.scope=1
  rotate_left
  ·have q2:(a.scope==1)=false:=beq_eq_false_iff_ne.2 c2
   rw[if_neg (fun h=>c2 h.2.1)]at hs
   refine Ab (an @s2 (an @s3 (an @s4 (an @s16 (an @s17 (an @s10 (An @s11 @h1 @h2 @h3 @hg @hsz @hT1 @hT2 @q1 @q2 @w1))))))) ?_;exact Aj (n-(i+1)) (by omega) ⟨Aa,Aa,Aa,Aa,i+1,_,Aa,by rw[hs];exact Aa,by rw[hs];exact Aa,rfl,by omega,rfl⟩
  have q2:(a.scope==1)=true:=beq_iff_eq.2 c2;by_cases c3:a.group=[]
  rotate_left
  ·have q3:(a.group==[])=false:=beq_eq_false_iff_ne.2 c3
   rw[if_neg (fun h=>c3 h.2.2.1)]at hs
   refine Ab (an @s2 (an @s3 (an @s4 (an @s16 (an @s17 (an @s10 (an @s11 (An @h1 @h2 @h3 @hg @hsz @hT1 @hT2 @q1 @q2 @q3 @w1)))))))) ?_;exact Aj (n-(i+1)) (by omega) ⟨Aa,Aa,Aa,Aa,i+1,_,Aa,by rw[hs];exact Aa,by rw[hs];exact Aa,rfl,by omega,rfl⟩
  have q3:(a.group==[])=true:=beq_iff_eq.2 c3;by_cases c4:a.epoch=r2
  rotate_left
  ·have q4:(a.epoch==r2)=false:=beq_eq_false_iff_ne.2 c4
   rw[if_neg (fun h=>c4 h.2.2.2)]at hs
   refine Ab (an @s2 (an @s3 (an @s4 (an @s16 (an @s17 (an @s10 (an @s11 (an @h1 (An @h2 @h3 @hg @hsz @hT1 @hT2 @q1 @q2 @q3 @q4 @w1))))))))) ?_;exact Aj (n-(i+1)) (by omega) ⟨Aa,Aa,Aa,Aa,i+1,_,Aa,by rw[hs];exact Aa,by rw[hs];exact Aa,rfl,by omega,rfl⟩
  have q4:(a.epoch==r2)=true:=beq_iff_eq.2 c4;have w2:IntKind.i64.wrap (r2+1)=r2+1:=wrap64 (by omega) (by omega)
  rw[if_pos ⟨c1,c2,c3,c4⟩]at hs;refine Ab (an @s2 (an @s3 (an @s4 (an @s16 (an @s17 (an @s10 (an @s11 (an @h1 (an @h2 (An @h3 @hg @hsz @hT1 @hT2 @q1 @q2 @q3 @q4 @w1 @w2)))))))))) ?_;exact Aj (n-(i+1)) (by omega) ⟨Aa,Aa,Aa,Aa,i+1,_,Aa,by rw[hs];exact Aa,by rw[hs];exact Aa,rfl,by omega,rfl⟩
 ·obtain rfl:i=n:=by omega
  generalize Bm c.acts i=r at *;have hd:decide (r.2>0)=decide (0<r.2):=rfl;have h1:¬(i:Int)<(i:Int):=by omega
  refine Ab (A9 @s2 @s3 @s4 @s16 @s17 @s10 @s11 @h1 @hd) ?_;exact Ad
theorem Zhu(c:Chn)(n:Nat)(hcl:c.acts.length≤500)(hn:n≤c.acts.length)(hr:Bg c.acts):AC prog 141 [AG c,.it .i64 (n:Int),.it .i64 1,.st []] [] (.tup [.it .i64 (AS c n).1,Av (AS c n).2.1,.bo (AS c n).2.2]) []:=by
 have kg:=XK c n hcl hn;have hin:=Kn c.acts (min n c.acts.length);have hlt:(Bb c n).2=true→(Bb c n).1<c.acts.length:=fun h=>by
  have h0:0<(Bm c.acts (min n c.acts.length)).2:=of_decide_eq_true h;have :=hin.2.2 h0;show(Bm c.acts (min n c.acts.length)).1<_
  omega
 unfold AS;generalize Bb c n=r at *;obtain⟨i,b⟩:=r;have hsz:=BX c.acts;simp only at hlt ⊢
 cases b with
 |false=>
  rw[if_neg (by decide)]
  show AC _ _ _ _ (.tup [.it .i64 0,.sl .ro [],.bo false]) _
  refine Ah [78,43] [] func141 ?_;refine run ?_;refine cp kg ?_;refine run ?_;exact Au
 | true=>
  rw[if_pos rfl];have hi:=hlt rfl;have hg:c.acts[i]? = some (c.acts.getD i Al):=by rw[List.getD_eq_getElem?_getD,List.getElem?_eq_getElem (by omega)];rfl
  have hi':(i:Int)<(c.acts.length:Int):=by omega
  have h0:(0:Int)≤(i:Int):=by omega
  have hra:Ac.right (c.acts.getD i Al)=true:=by
   rw[List.getD_eq_getElem?_getD,List.getElem?_eq_getElem hi]
   exact hr _ (List.getElem_mem hi)
  have kc:=XD (c.acts.getD i Al).to (by have :=(Cp hra).to.1;omega)
  generalize c.acts.getD i Al=a at *;show AC _ _ _ _ (.tup [.it .i64 a.epoch,Av a.to,.bo true]) _
  refine Ah [78,43] [] func141 ?_;refine run ?_;refine cp kg ?_;refine Ab (A4 @hg @hi' @h0 @hsz) ?_;refine cp kc ?_;refine run ?_;exact Au
theorem Ze0(l:List By)(d:By)(hl:l.length≤1000000):∃i:Int,AC prog 71 [Av l,.st d] [] (.it .i64 i) []∧(0≤i↔d∈l):=by
 have hsz:=D8 l;cases hf:l.findIdx? (fun x=>x==d)with
 | none=>
  rw[List.findIdx?_eq_none_iff]at hf
  refine⟨-1,?_,by simp,fun h=>?_⟩
  rotate_left
  ·have :=hf d h
   simp at this
  refine Ah [] [] func71 ?_;refine run ?_;refine AN (fun m e S=>e 0=Av l∧e 1=.st d∧e 7=.it .i64 (l.length:Int)∧S=[] ∧ ∃k:Nat,e 8=.it .i64 (k:Int)∧k≤l.length∧m=l.length-k) l.length ⟨Aa,Aa,Aa,rfl,0,Aa,by omega,rfl⟩ ?_
  rintro m e S ⟨s0,s1,s7,rfl,k,s8,hk,rfl⟩
  by_cases hlt:k<l.length
  ·have hg:l[k]? = some l[k]:=List.getElem?_eq_getElem hlt
   have hlt':(k:Int)<(l.length:Int):=by omega
   have h0:(0:Int)≤(k:Int):=by omega
   have w1:=AT (k:=k) (by omega)
   have q:(d==l[k])=false:=by
    have :=hf l[k] (List.getElem_mem hlt);rw[Bool.beq_comm];exact this
   generalize l[k]=x at *;refine Ab (BZ @s0 @s1 @s7 @s8 @hlt' @h0 @hg @hsz @q @w1) ?_;exact Aj (l.length-(k+1)) (by omega) ⟨Aa,Aa,Aa,rfl,k+1,Aa,by omega,rfl⟩
  ·obtain rfl:k=l.length:=by omega
   have hlt':¬(l.length:Int)<(l.length:Int):=by omega
   refine Ab (A5 @s0 @s1 @s7 @s8 @hlt') ?_;exact Ad
 | some j=>
  rw[List.findIdx?_eq_some_iff_getElem]at hf
  obtain⟨hj,h1,h2⟩:=hf;refine⟨(j:Int),?_,fun _=>by rw[←beq_iff_eq.1 h1];exact List.getElem_mem hj,fun _=>by omega⟩
  refine Ah [] [] func71 ?_;refine run ?_;refine AN (fun m e S=>e 0=Av l∧e 1=.st d∧e 7=.it .i64 (l.length:Int)∧S=[] ∧ ∃k:Nat,e 8=.it .i64 (k:Int)∧k≤j∧m=l.length-k) l.length ⟨Aa,Aa,Aa,rfl,0,Aa,by omega,rfl⟩ ?_
  rintro m e S ⟨s0,s1,s7,rfl,k,s8,hk,rfl⟩
  have hlt:k<l.length:=by omega
  have hg:l[k]? = some l[k]:=List.getElem?_eq_getElem hlt
  have hlt':(k:Int)<(l.length:Int):=by omega
  have h0:(0:Int)≤(k:Int):=by omega
  have w1:=AT (k:=k) (by omega)
  by_cases hkj:k=j
  ·subst hkj
   have q:(d==l[k])=true:=by rw[Bool.beq_comm];exact h1
   generalize l[k]=x at *;refine Ab (A9 @s0 @s1 @s7 @s8 @hlt' @h0 @hg @hsz @q) ?_;exact Ad
  ·have q:(d==l[k])=false:=by
    have :=h2 k (by omega)
    rw[Bool.beq_comm];simpa using this
   generalize l[k]=x at *;refine Ab (BZ @s0 @s1 @s7 @s8 @hlt' @h0 @hg @hsz @q @w1) ?_;exact Aj (l.length-(k+1)) (by omega) ⟨Aa,Aa,Aa,rfl,k+1,Aa,by omega,rfl⟩
theorem Xv(l:List By)(d:By)(hl:l.length≤1000000):AC prog 31 [Av l,.st d] [] (.bo (l.contains d)) []:=by
 obtain⟨i,k,hi⟩:=Ze0 l d hl;have q:decide (i≥0)=l.contains d:=by
  rw[Bool.eq_iff_iff,decide_eq_true_iff,List.contains_iff_mem];exact hi
 generalize l.contains d=b at *;refine Ah [71] [] func31 ?_;refine run ?_;refine cp k ?_;refine Ab @q ?_;exact Ad
end Pe
end
end Go.Proofs.YtipfggegddlgdaaGreatDoor
