import Derived.Test.YtipfggegddlgdaaGreatDoorKw23
set_option linter.unusedSectionVars false
set_option linter.unusedVariables false
set_option linter.unusedSimpArgs false
namespace Go.Proofs.YtipfggegddlgdaaGreatDoor
section
namespace Pe
open Tryz
open Go Go.RowKit Co Sg Ac It Sl Tp
set_option maxRecDepth 100000
set_option maxHeartbeats 4000000
theorem Tf(k:Key)(e:Int):(Di k e).length=32:=rfl
theorem Tg(k:Key)(e:Int)(hk:-9223372036854775808≤k.secret∧k.secret≤9223372036854775807)(he:-9223372036854775808≤e∧e≤9223372036854775807):AC prog 204 [E9 k,.it .i64 1,.st [],.it .i64 e] [] (.st (Di k e)) []:=by
 have k1:=Ck [101,112,111,99,104] (by simp)
 have k2:=B2 k.secret (by omega)
 have k3:=B2 1 (by omega)
 have k4:=Ck [] (by simp)
 have k5:=B2 e (by omega)
 have l1:=G0 [101,112,111,99,104] (by simp)
 have l2:=AI k.secret (by omega)
 have l3:=AI 1 (by omega)
 have l4:=G0 [] (by simp)
 have l5:=AI e (by omega)
 simp only[List.length_cons,List.length_nil]at l1 l4;have k6:=J8 (text [101,112,111,99,104]++Ai k.secret++Ai 1++text []++Ai e) (by simp only[List.length_append];omega)
 change AC _ _ _ _ (.st (Di k e)) _ at k6;generalize Di k e=z at *;generalize text [101,112,111,99,104]=x1 at *;generalize Ai k.secret=x2 at *;generalize Ai 1=x3 at *;generalize text []=x4 at *;generalize Ai e=x5 at *;refine Ah [76,77,75] [] func204 ?_;refine run ?_;refine cp k1 ?_;refine run ?_;refine cp k2 ?_;refine run ?_;refine cp k3 ?_;refine run ?_;refine cp k4 ?_;refine run ?_;refine cp k5 ?_;refine run ?_;refine cp k6 ?_;refine run ?_;exact Ad
theorem Ym(k:Key)(c:Chn)(hk:-9223372036854775808≤k.secret∧k.secret≤9223372036854775807)(hcl:c.acts.length≤500)(hck:c.keys.length≤500):AC prog 201 [E9 k,AG c] [] (.bo (Gw k c)) []:=by
 have k1:=XG c c.acts.length (by omega) (by omega) (by omega)
 have k2:=PI k hk;unfold Gw;generalize CI c c.acts.length=r at *;obtain⟨at',b⟩:=r;simp only
 have hq:(at'.pub==k.pub)=decide (at'.pub=k.pub):=rfl;cases b with
 |false=>
  show AC _ _ _ _ (.bo false) _
  refine Ah [283,82] [] func201 ?_;refine run ?_;refine cp k1 ?_;refine run ?_;exact Ad
 | true=>
  cases hr:k.right with
  |false=>
   rw[hr]at k2;show AC _ _ _ _ (.bo false) _
   refine Ah [283,82] [] func201 ?_;refine run ?_;refine cp k1 ?_;refine run ?_;refine cp k2 ?_;refine run ?_;exact Ad
  |true=>
   rw[hr]at k2;show AC _ _ _ _ (.bo (decide (at'.pub=k.pub))) _
   refine Ah [283,82] [] func201 ?_;refine run ?_;refine cp k1 ?_;refine run ?_;refine cp k2 ?_;refine Ab @hq ?_;exact Ad
theorem Zf9(c:Chn)(n:Nat)(hr:Bg c.acts):(AS c n).2.1.length≤64:=by
 unfold AS;split
 ·show(c.acts.getD (Bb c n).1 Al).to.length≤64
  by_cases hi:(Bb c n).1<c.acts.length
  ·rw[List.getD_eq_getElem?_getD,List.getElem?_eq_getElem hi]
   exact(Cp (hr _ (List.getElem_mem hi))).to.1
  ·rw[List.getD_eq_getElem?_getD,List.getElem?_eq_none (by omega)]
   exact Nat.zero_le _
 ·exact Nat.zero_le _
theorem Zfs(c:Chn)(n:Nat):(Bb c n).1≤n:=by
 have :=(Kn c.acts (min n c.acts.length)).2.1;show(Bm c.acts (min n c.acts.length)).1≤n
 omega
theorem Za8(k:Key)(c:Chn)(hcl:c.acts.length≤400)(hck:c.keys.length≤500)(hr:Bg c.acts):AC prog 202 [E9 k,AG c,.it .i64 1,.st [],.sl .ro []] [] (.bo (H3 k c)) []:=by
 have kg:=VU c c.acts.length (by omega) (by omega)
 have hgl:=Zfs c c.acts.length;have kk:=XG c (Bb c c.acts.length).1 (by omega) (by omega) (by omega)
 have hto:=Zf9 c c.acts.length hr;have kf:=ZfB c c.acts.length hcl (by omega) hr (by omega)
 unfold H3;generalize Bb c c.acts.length=g at *;obtain⟨gi,gb⟩:=g;simp only at kk ⊢
 generalize CI c gi=r at *;obtain⟨at',b⟩:=r;generalize Gr c c.acts.length=f at *;simp only
 have hq:(at'.pub !=k.pub) = !(decide (at'.pub=k.pub)):=rfl;cases f with
 |true=>
  show AC _ _ _ _ (.bo true) _
  refine Ah [284,283,285] [] func202 ?_;refine run ?_;refine cp kg ?_;refine run ?_;refine cp kk ?_;refine run ?_;refine cp kf ?_;refine run ?_;exact Ad
 |false=>
  show AC _ _ _ _ (.bo (!(decide (at'.pub=k.pub)))) _
  refine Ah [284,283,285] [] func202 ?_;refine run ?_;refine cp kg ?_;refine run ?_;refine cp kk ?_;refine run ?_;refine cp kf ?_;refine Ab @hq ?_;exact Ad
theorem NQ:AC prog 199 [.it .i64 1] [] (.bo true) []:=by
 refine Ah [] [] func199 ?_;refine run ?_;exact Ad
theorem Lx:AC prog 200 [.it .i64 1] [] (.bo true) []:=by
 refine Ah [] [] func200 ?_;refine run ?_;exact Ad
def PR(s:By)(c:Chn)(txt:By):By:=text Tp.wPost++text s++Ai (c.acts.length:Int)++text c.prev++text txt
def H7(k:Key)(c:Chn)(time:Int)(txt:By):Ac.Act:={ BU c 1 time with scope:=1,epoch:=(AS c c.acts.length).1,body:=G2 (Di k (AS c c.acts.length).1) (Sm.sha (PR (Di k (AS c c.acts.length).1) c txt)) txt }
theorem PS(k:Key)(c:Chn)(time:Int)(txt:By):EI k c time txt=if Gw k c=false then(Al,10)else if H3 k c=true then(Al,11)else if Ac.right (H7 k c time txt)=false then(Al,1)else if Bh c (H7 k c time txt)=false then(Al,4)else(Bs k (H7 k c time txt),0):=rfl
theorem Zc6(k:Key)(c:Chn)(time:Int)(txt:By)(hk:k.right=true)(hcl:c.acts.length≤300)(hck:c.keys.length≤300)(hr:Bg c.acts)(hid:c.id.length≤1000)(hpv:c.prev.length≤1000)(htx:txt.length≤1000):
  AC prog 124 [E9 k,AG c,Am { BU c 1 time with scope:=1 },.st txt] [] (.tup [Am (EI k c time txt).1,.it .i64 (EI k c time txt).2]) []:=by
 have hkr:=Key.right_iff.1 hk;have ka:=Ym k c (by omega) (by omega) (by omega)
 have kst:=Za8 k c (by omega) (by omega) hr
 have kd:=Ra c 1 time (by omega)
 have ke:=QU c c.acts.length (by omega) (by omega)
 have hein:=WO c c.acts.length hr;have hsd:Sz (H7 k c time txt):=⟨by show c.id.length≤_;omega,by show(0:Nat)≤_;omega,by show(0:Nat)≤_;omega,by show(0:Nat)≤_;omega,(fun s hs=>nomatch hs),by show(0:Nat)≤_;omega,by show(0:Nat)≤_;omega⟩
 have kr:=Ih (H7 k c time txt) hsd;have kf:=Q9 c (H7 k c time txt) (by omega) hr hsd
 have ks:=Mg k (H7 k c time txt) hsd (by show(0:Nat)≤_;omega) (by show(0:Nat)≤_;omega) (by omega)
 obtain⟨q,hq⟩:∃q,EI k c time txt=q:=⟨_,rfl⟩
 rw[hq];rw[PS]at hq;generalize hD:H7 k c time txt=d at *;have hDe:d={ BU c 1 time with scope:=1,epoch:=(AS c c.acts.length).1,body:=G2 (Di k (AS c c.acts.length).1) (Sm.sha (PR (Di k (AS c c.acts.length).1) c txt)) txt }:=hD.symm
 cases hau:Gw k c with
 |false=>
  obtain rfl:q=(Al,10):=by rw[←hq,if_pos hau]
  rw[hau]at ka;refine Ah [199,200,201,58,202,203,204,76,77,75,205,63,66,38] [] func124 ?_;refine run ?_;refine cp NQ ?_;refine run ?_;refine cp Lx ?_;refine run ?_;refine cp ka ?_;refine run ?_;exact Au
 |true=>
 rw[hau]at ka;rw[if_neg (by rw[hau];decide)]at hq
 cases hst:H3 k c with
 |true=>
  obtain rfl:q=(Al,11):=by rw[←hq,if_pos hst]
  rw[hst]at kst;refine Ah [199,200,201,58,202,203,204,76,77,75,205,63,66,38] [] func124 ?_;refine run ?_;refine cp NQ ?_;refine run ?_;refine cp Lx ?_;refine run ?_;refine cp ka ?_;refine run ?_;refine cp kd ?_;refine run ?_;refine cp kst ?_;refine run ?_;exact Au
 |false=>
 rw[hst]at kst;rw[if_neg (by rw[hst];decide)]at hq
 generalize AS c c.acts.length=ep at *;obtain⟨ee,eto,eb⟩:=ep;simp only at hein hDe
 have ksec:=Tg k ee (by omega) (by omega)
 have hsl:=Tf k ee;generalize Di k ee=s at *;have t1:=Ck [112,111,115,116] (by simp)
 have t2:=Ck s (by omega)
 have t3:=B2 (c.acts.length:Int) (by omega)
 have t4:=Ck c.prev (by omega)
 have t5:=Ck txt (by omega)
 have l1:=G0 [112,111,115,116] (by simp)
 have l2:=G0 s (by omega)
 have l3:=AI (c.acts.length:Int) (by omega)
 have l4:=G0 c.prev (by omega)
 have l5:=G0 txt (by omega)
 simp only[List.length_cons,List.length_nil]at l1;have hX:PR s c txt=text [112,111,115,116]++text s++Ai (c.acts.length:Int)++text c.prev++text txt:=rfl;rw[hX]at hDe;have t6:=J8 (text [112,111,115,116]++text s++Ai (c.acts.length:Int)++text c.prev++text txt) (by simp only[List.length_append];omega)
 have hzl:(Sm.sha (text [112,111,115,116]++text s++Ai (c.acts.length:Int)++text c.prev++text txt)).length=32:=rfl;generalize text [112,111,115,116]=x1 at *;generalize text s=x2 at *;generalize Ai (c.acts.length:Int)=x3 at *;generalize text c.prev=x4 at *;generalize text txt=x5 at *;generalize Sm.sha (x1++x2++x3++x4++x5)=z at *;have t7:=Tk s z txt (by omega) (by omega) (by omega)
 generalize G2 s z txt=bx at *;have eV:Am d=.agg [.st c.id,.it .i64 (c.acts.length:Int),.st c.prev,.it .i64 1,.it .i64 time,.st [],.st [],.it .i64 1,.st [],.sl .ro [],.st [],.st bx.nonce,.st bx.data,.st bx.tag,.it .i64 ee,.sl .ro [],.it .i64 0,.it .i64 0,.it .i64 0,.it .i64 0]:=by rw[hDe];rfl
 rw[eV]at kr kf ks;clear hX hDe hD;cases hrt:Ac.right d with
 |false=>
  obtain rfl:q=(Al,1):=by rw[←hq,if_pos hrt]
  rw[hrt]at kr;refine Ah [199,200,201,58,202,203,204,76,77,75,205,63,66,38] [] func124 ?_;refine run ?_;refine cp NQ ?_;refine run ?_;refine cp Lx ?_;refine run ?_;refine cp ka ?_;refine run ?_;refine cp kd ?_;refine run ?_;refine cp kst ?_;refine run ?_;refine cp ke ?_;refine run ?_;refine cp ksec ?_;refine run ?_;refine cp t1 ?_;refine run ?_;refine cp t2 ?_;refine run ?_;refine cp t3 ?_;refine run ?_;refine cp t4 ?_;refine run ?_;refine cp t5 ?_;refine run ?_;refine cp t6 ?_;refine run ?_;refine cp t7 ?_;refine run ?_;refine cp kr ?_;refine run ?_;exact Au
 |true=>
 rw[hrt]at kr;rw[if_neg (by rw[hrt];decide)]at hq
 have hfq:(Bh c d=false∧q=(Al,4))∨(Bh c d=true∧q=(Bs k d,0)):=by
  cases hft:Bh c d with
  |false=>exact .inl ⟨rfl,by rw[←hq,if_pos hft]⟩
  |true=>exact .inr ⟨rfl,by rw[←hq,if_neg (by rw[hft];decide)]⟩
 refine Ah [199,200,201,58,202,203,204,76,77,75,205,63,66,38] [] func124 ?_;refine run ?_;refine cp NQ ?_;refine run ?_;refine cp Lx ?_;refine run ?_;refine cp ka ?_;refine run ?_;refine cp kd ?_;refine run ?_;refine cp kst ?_;refine run ?_;refine cp ke ?_;refine run ?_;refine cp ksec ?_;refine run ?_;refine cp t1 ?_;refine run ?_;refine cp t2 ?_;refine run ?_;refine cp t3 ?_;refine run ?_;refine cp t4 ?_;refine run ?_;refine cp t5 ?_;refine run ?_;refine cp t6 ?_;refine run ?_;refine cp t7 ?_;refine run ?_;refine cp kr ?_;refine run ?_;refine cp kf ?_;rcases hfq with⟨hft,rfl⟩|⟨hft,rfl⟩
 ·rw[hft]
  refine run ?_;exact Au
 ·rw[hft]
  generalize Bs k d=sd at *;refine run ?_;refine cp ks ?_;refine run ?_;exact Ad
end Pe
end
section
namespace Pe
open Tryz
open Go Go.RowKit Co Sg Ac It Sl Tp
set_option maxRecDepth 100000
set_option maxHeartbeats 4000000
theorem R3(s:By):∀(ps:List Int) (b i:Nat),(Du s b ps)[i]? = (ps[i]?).map fun p=>GX p (text Tp.wGrant++text s++Ai ((b+i:Nat):Int)) s
 |[],b,i=>by simp[Du]
 |p::ps,b,0=>rfl
 |p::ps,b,i+1=>by
  rw[Du,List.getElem?_cons_succ,R3 s ps (b+1) i,List.getElem?_cons_succ,show b+1+i=b+(i+1) by omega]
theorem R2(s:By):∀(ps:List Int) (b:Nat),(Du s b ps).length=ps.length
 |[],_=>rfl
 |p::ps,b=>by rw[Du,List.length_cons,R2 s ps,List.length_cons]
theorem Zam{l:List By}{d x:By}(h:x∈CU l d):x∈l∨x=d:=by
 unfold CU at h;split at h
 ·exact .inl h
 ·rw[←N4,←N5]at h
  rcases List.mem_append.1 h with h|h
  ·exact .inl (List.mem_of_mem_take h)
  ·rcases List.mem_cons.1 h with h|h
   ·exact .inr h
   ·exact .inl (List.mem_of_mem_drop h)
theorem Zaj{l:List By}{d x:By}(h:x∈B3 l d):x∈l:=(List.mem_filter.1 h).1
theorem ZeR{l:List By}{d x:By}(h:x∈Eu l d):x∈l∨x=d:=by
 rw[Qs]at h;split at h
 ·exact .inl h
 ·rcases List.mem_append.1 h with h|h
  ·exact .inl (List.mem_of_mem_take h)
  ·rcases List.mem_cons.1 h with h|h
   ·exact .inr h
   ·exact .inl (List.mem_of_mem_drop h)
theorem Zic{t:Ties}{acts:List Ac.Act}{i:Nat}{l:List By}{x:By}(h:x∈(EA t acts i l).accepts):x∈t.accepts∨x=(acts.getD i Al).target:=by
 unfold EA at h;simp only at h
 repeat' split at h
 all_goals first|exact .inl h|exact Zam h|exact .inl (Zaj h)
theorem SC(acts:List Ac.Act)(hr:Bg acts):∀n,∀x∈(Dv acts n).accepts,x.length≤16
 |0,x,h=>nomatch h
 | n+1,x,h=>by
  rcases Zic h with h|rfl
  ·exact SC acts hr n x h
  ·by_cases hi:n<acts.length
   ·rw[List.getD_eq_getElem?_getD,List.getElem?_eq_getElem hi]
    exact(Cp (hr _ (List.getElem_mem hi))).target
   ·rw[List.getD_eq_getElem?_getD,List.getElem?_eq_none (by omega)]
    exact Nat.zero_le _
theorem ZfE(l acc:List By)(x:By)(h:x∈l.foldl Eu acc):x∈acc∨x∈l:=by
 induction l generalizing acc with
 |nil=>exact .inl h
 | cons y l ih=>
  rcases ih _ h with h|h
  ·rcases ZeR h with h|rfl
   ·exact .inl h
   ·exact .inr (by simp)
  ·exact .inr (List.mem_cons_of_mem _ h)
theorem ZdU(c:Chn)(n:Nat)(hr:Bg c.acts):∀x∈AR c n,x.length≤16:=fun x hx=>by
 unfold AR at hx;rcases ZfE _ _ x hx with h|h
 ·cases h
 ·exact SC c.acts hr _ x (List.mem_filter.1 h).1
def FC(c:Chn):Int:=if(AS c c.acts.length).2.2=true then(AS c c.acts.length).1+1 else(AS c c.acts.length).1
def Hg(k:Key)(c:Chn)(ps:List Int)(time:Int):Ac.Act:={ BU c 16 time with scope:=1,to:=AR c c.acts.length,epoch:=FC c,wraps:=Du (Di k (FC c)) 0 ps }
def Jx(ps:List Int):Bool:=ps.any (fun p=>decide (p<1)||decide (2305843009213693950<p))
def Jn(k:Key)(c:Chn)(ps:List Int)(time:Int):Ac.Act×Int:=
 if Jx ps=true then(Al,1)else if Gw k c=false then(Al,10)else if Ac.right (Hg k c ps time)=false then(Al,1)else(Bs k (Hg k c ps time),0)
theorem Zfq(k:Key)(c:Chn)(ps:List Int)(time:Int)(hl:(AR c c.acts.length).length≤64):(Jn k c ps time).1=Gq k c ps time:=by
 unfold Jn Gq Jx;simp only
 rw[if_neg (show ¬64<(AR c c.acts.length).length by omega)]
 split
 ·rfl
 split
 ·rfl
 show _=if Ac.right (Hg k c ps time)=false then Al else Bs k (Hg k c ps time)
 split<;>rfl
theorem Zgn(c:Chn)(kind time:Int)(hl:c.acts.length≤1000):AC prog 58 [AG c,.it .i64 kind,.it .i64 time] [] (.agg [.st c.id,.it .i64 (c.acts.length:Int),.st c.prev,.it .i64 kind,.it .i64 time,.st [],.st [],.it .i64 0,.st [],.sl .full [],.st [],.st [],.st [],.st [],.it .i64 0,.sl .full [],.it .i64 0,.it .i64 0,.it .i64 0,.it .i64 0]) []:=by
 obtain⟨id,acts,keys,prev,gen,fork⟩:=c;refine Ah [] [] func58 ?_;refine run ?_;exact Ad
theorem ZeP(l:List Int):AK 1 (l.map (AV.it .i64))=true:=BG 1 (AV.it .i64) (fun _=>rfl) _
theorem R0(l:List Wrap):AK 5 (l.map Bj)=true:=BG 5 Bj (fun _=>rfl) _
set_option maxHeartbeats 16000000
theorem Zft(k:Key)(c:Chn)(ps:List Int)(time:Int)(hk:k.right=true)(hcl:c.acts.length≤60)(hck:c.keys.length≤300)(hr:Bg c.acts)(hid:c.id.length≤1000)(hpl:ps.length=(AR c c.acts.length).length):
  AC prog 127 [E9 k,AG c,.it .i64 1,.st [],.sl .ro [],AP ps,.it .i64 time] [] (.tup [Am (Jn k c ps time).1,.it .i64 (Jn k c ps time).2]) []:=by
 have hkr:=Key.right_iff.1 hk;have km:=Qf c c.acts.length (by omega) (by omega) hr
 have hml:=Qe c c.acts.length;have ka:=Ym k c (by omega) (by omega) (by omega)
 have ke:=QU c c.acts.length (by omega) (by omega)
 have hein:=WO c c.acts.length hr;have kd:=Zgn c 16 time (by omega)
 have hsp:=ZeP ps;have hgE:-9223372036854775808≤FC c∧FC c≤9223372036854775807:=by unfold FC;split<;>omega
 have hgEd:FC c=if(AS c c.acts.length).2.2=true then(AS c c.acts.length).1+1 else(AS c c.acts.length).1:=rfl
 have ksec:=Tg k (FC c) (by omega) hgE
 have hsl:=Tf k (FC c);have hwl:=R2 (Di k (FC c)) ps 0;have hwg:=R3 (Di k (FC c)) ps 0;have hsd:Sz (Hg k c ps time):=⟨by show c.id.length≤_;omega,by show(0:Nat)≤_;omega,by show(0:Nat)≤_;omega,by show(0:Nat)≤_;omega,(fun x hx=>by have :=ZdU c c.acts.length hr x hx;omega),by show(AR c c.acts.length).length≤_;omega,by show(Du _ 0 ps).length≤_;omega⟩
 have kr:=Ih (Hg k c ps time) hsd;have ks:=Mg k (Hg k c ps time) hsd (by show(AR c c.acts.length).length≤_;omega) (by show(Du _ 0 ps).length≤_;omega) (by omega)
 obtain⟨q,hq⟩:∃q,Jn k c ps time=q:=⟨_,rfl⟩
 rw[hq];unfold Jn at hq;have eV:Am (Hg k c ps time)=.agg [.st c.id,.it .i64 (c.acts.length:Int),.st c.prev,.it .i64 16,.it .i64 time,.st [],.st [],.it .i64 1,.st [],Av (AR c c.acts.length),.st [],.st [],.st [],.st [],.it .i64 (FC c),.sl .ro ((Du (Di k (FC c)) 0 ps).map Bj),.it .i64 0,.it .i64 0,.it .i64 0,.it .i64 0]:=rfl;rw[eV]at kr ks;generalize Hg k c ps time=A at *;clear eV hsd;generalize AR c c.acts.length=L at *;generalize AS c c.acts.length=ep at *;obtain⟨ee,eto,eb⟩:=ep;simp only at hein hgEd
 generalize FC c=ge at *;generalize Di k ge=s at *;generalize Du s 0 ps=W at *;have nl:((ps.length:Int) !=(L.length:Int))=false:=Df (by omega)
 have hL64:¬(L.length:Int)>64:=by omega
 have hbad:Jx ps=false → ∀(j:Nat) (p:Int),ps[j]? = some p → ¬p<1 ∧ ¬p>2305843009213693950:=fun h j p hp=>by
  unfold Jx at h;rw[List.any_eq_false]at h;have :=h p (List.mem_of_getElem? hp);simp only[Bool.or_eq_true,decide_eq_true_eq,not_or]at this;exact⟨this.1,by omega⟩
 have hgood:(∀(j:Nat) (p:Int),ps[j]? = some p → ¬p<1 ∧ ¬p>2305843009213693950)→Jx ps=false:=fun h=>by
  unfold Jx;rw[List.any_eq_false];intro p hp;obtain⟨j,hj⟩:=List.mem_iff_getElem?.1 hp;have :=h j p hj;simp only[Bool.or_eq_true,decide_eq_true_eq,not_or];exact⟨this.1,by omega⟩
 refine Ah [125,200,201,203,58,204,76,77,210,63,38] [] func127 ?_;refine run ?_;refine cp km ?_;refine run ?_;refine cp Lx ?_;refine Ab @nl ?_;refine AN (fun m e S=>e 2=.it .i64 1∧e 3=.st []∧e 5=AP ps∧e 6=.it .i64 time∧e 7=.ptr 0 0∧e 8=.ptr 1 0∧e 14=.ptr 2 0∧e 16=.it .i64 (c.acts.length:Int)∧e 17=Av L∧S=[.cells [.it .i64 k.secret,.it .i64 k.pub],.cells [.st c.id,Bu c.acts,.sl .ro (c.keys.map Bt),.st c.prev,.it .i64 c.gen,.bo c.fork],.cells JP] ∧ ∃i:Nat,e 18=.it .i64 (i:Int)∧(∀(j:Nat) (p:Int),j<i→ps[j]? = some p → ¬p<1 ∧ ¬p>2305843009213693950)∧i≤ps.length∧m=ps.length-i) ps.length ⟨Aa,Aa,Aa,Aa,Aa,Aa,Aa,Aa,Aa,rfl,0,Aa,fun j p h=>absurd h (Nat.not_lt_zero _),by omega,rfl⟩ ?_
 rintro m e S ⟨s2,s3,s5,s6,s7,s8,s14,s16,s17,rfl,i,s18,hall,hi,rfl⟩
 rw[Db s14];by_cases hlt:i<ps.length
 ·have hg:ps[i]? = some ps[i]:=List.getElem?_eq_getElem hlt
  have hlt':(i:Int)<(ps.length:Int):=by omega
  have w1:=AT (k:=i) (by omega)
  generalize ps[i]=p at *;have hbt:(p<1∨p>2305843009213693950)→q=(Al,1):=fun h=>by
   cases hb:Jx ps with
   |true=>rw[←hq,if_pos hb]
   |false=>have :=hbad hb i p hg;omega
  by_cases c1:p<1
  ·obtain rfl:=hbt (.inl c1)
   refine Ab (an @s2 (an @s3 (an @s5 (An @s6 @s7 @s8 @s14 @s16 @s17 @s18 @hlt' @hg @hsp @c1)))) ?_;exact Au
  by_cases c2:p>2305843009213693950
  ·obtain rfl:=hbt (.inr c2)
   refine Ab (an @s2 (an @s3 (an @s5 (an @s6 (An @s7 @s8 @s14 @s16 @s17 @s18 @hlt' @hg @hsp @c1 @c2))))) ?_;exact Au
  refine Ab (an @s2 (an @s3 (an @s5 (an @s6 (an @s7 (An @s8 @s14 @s16 @s17 @s18 @hlt' @hg @hsp @c1 @c2 @w1)))))) ?_;exact Aj (ps.length-(i+1)) (by omega) ⟨Aa,Aa,Aa,Aa,Aa,Aa,Aa,Aa,Aa,rfl,i+1,Aa,(fun j p' hj hp=>by
   by_cases ej:j=i
   ·subst ej;rw[hg]at hp;cases hp;exact⟨c1,c2⟩
   ·exact hall j p' (by omega) hp),by omega,rfl⟩
 have hie:i=ps.length:=by omega
 subst hie;have hall':∀(j:Nat) (p:Int),ps[j]? = some p → ¬p<1 ∧ ¬p>2305843009213693950:=fun j p hp=>hall j p (List.getElem?_eq_some_iff.1 hp).1 hp
 have hbf:=hgood hall';rw[if_neg (by rw[hbf];decide)]at hq
 have hlt':¬(ps.length:Int)<(ps.length:Int):=by omega
 refine Ab (an @s2 (An @s3 @s5 @s6 @s7 @s8 @s14 @s16 @s17 @s18 @hlt' @hL64)) ?_;refine cp ka ?_;cases hau:Gw k c with
 |false=>
  obtain rfl:q=(Al,10):=by rw[←hq,if_pos hau]
  refine Ab (A9 @s2 @s3 @s5 @s6 @s7 @s8 @s14 @s16 @s17) ?_;exact Au
 |true=>
 rw[if_neg (by rw[hau];decide)]at hq
 refine Ab (A9 @s2 @s3 @s5 @s6 @s7 @s8 @s14 @s16 @s17) ?_;refine cp ke ?_;have w2:IntKind.i64.wrap (ee+1)=ee+1:=wrap64 (by omega) (by omega)
 have hwd:W.length=L.length:=by omega
 have t1:=Ck [103,114,97,110,116] (by simp)
 have t2:=Ck s (by omega)
 have l1:=G0 [103,114,97,110,116] (by simp)
 have l2:=G0 s (by omega)
 simp only[List.length_cons,List.length_nil]at l1;change ∀i,W[i]? = (ps[i]?).map fun p=>GX p (text [103,114,97,110,116]++text s++Ai ((0+i:Nat):Int)) s at hwg
 simp only[Nat.zero_add]at hwg;generalize text [103,114,97,110,116]=x1 at *;generalize text s=x2 at *;have hrq:(Ac.right A=false∧q=(Al,1))∨(Ac.right A=true∧q=(Bs k A,0)):=by
  cases hrt:Ac.right A with
  |false=>exact .inl ⟨rfl,by rw[←hq,if_pos hrt]⟩
  |true=>exact .inr ⟨rfl,by rw[←hq,if_neg (by rw[hrt];decide)]⟩
 clear hq hall hall' hgood hlt;have hallp:=hbad hbf;cases eb with
 | true=>
  obtain rfl:ge=(ee+1):=hgEd;refine Ab (BZ @s2 @s3 @s5 @s6 @s7 @s8 @s14 @s16 @s17 @w2) ?_;refine cp kd ?_;refine Ab (A9 @s2 @s3 @s5 @s6 @s7 @s8 @s14 @s16 @s17) ?_;refine cp ksec ?_;refine Ab (A9 @s2 @s3 @s5 @s6 @s7 @s8 @s14 @s16 @s17) ?_;refine Cq (fun m e S=>e 5=AP ps∧e 7=.ptr 0 0∧e 14=.ptr 2 0∧e 17=Av L∧e 22=.ptr 3 0∧e 23=.st s ∧ ∃(i:Nat) (acc:List Wrap) (T:Ae),e 24=.it .i64 (i:Int)∧S=.cells [.it .i64 k.secret,.it .i64 k.pub]::.cells [.st c.id,Bu c.acts,.sl .ro (c.keys.map Bt),.st c.prev,.it .i64 c.gen,.bo c.fork]::.cells JP::.cells [.st c.id,.it .i64 (c.acts.length:Int),.st c.prev,.it .i64 16,.it .i64 time,.st [],.st [],.it .i64 1,.st [],Av L,.st [],.st [],.st [],.st [],.it .i64 (ee+1),.sl (.own 4) (acc.map Bj),.it .i64 0,.it .i64 0,.it .i64 0,.it .i64 0]::.buf acc.length 92 5::T∧acc=W.take i∧i≤L.length∧m=L.length-i) L.length _ _ (Ao.reserveK 0 3 15 (by rfl) (by rfl) 92 5)
   ⟨Aa,Aa,Aa,Aa,Aa,Aa,0,[],[],Aa,rfl,by simp,by omega,rfl⟩ ?_
  clear s2 s3 s5 s6 s7 s8 s14 s16 s17 s18;rintro m e S ⟨s5,s7,s14,s17,s22,s23,i,acc,T,s24,rfl,hacc,hi,rfl⟩
  rw[Db s14];have hT1:∀y:SObj,(T++[y])[T.length]? = some y:=fun y=>by simp
  have hT2:∀y z:SObj,(T++[y]).set T.length z=T++[z]:=fun y z=>by simp
  have hal:acc.length=i:=by rw[hacc,List.length_take];omega
  have hsw:=R0 acc;by_cases hlt:i<L.length
  ·have hg:ps[i]? = some (ps[i]'(by omega)):=List.getElem?_eq_getElem (by omega)
   have hwi:=hwg i;rw[hg]at hwi;have hlt':(i:Int)<(L.length:Int):=by omega
   have hltp:(i:Int)<(ps.length:Int):=by omega
   have w1:=AT (k:=i) (by omega)
   have hpo:=hallp i _ hg;have t3:=B2 (i:Int) (by omega)
   have l3:=AI (i:Int) (by omega)
   generalize ps[i]'(by omega)=p at *
   have kw:=Sa p (x1++x2++Ai (i:Int)) s (by omega) (by simp only[List.length_append];omega) (by omega)
   change W[i]? = some (GX p (x1++x2++Ai (i:Int)) s)at hwi;generalize Ai (i:Int)=x3 at *;generalize GX p (x1++x2++x3) s=wv at *;have hst:acc++[wv]=W.take (i+1):=by
    obtain⟨h1,h2⟩:=List.getElem?_eq_some_iff.1 hwi
    rw[List.take_succ_eq_append_getElem h1,h2,hacc]
   refine Ab (An @s5 @s7 @s14 @s17 @s22 @s23 @s24 @hlt' @hltp @hg @hsp) ?_;refine cp t1 ?_;refine Ab (A7 @s5 @s7 @s14 @s17 @s22 @s23 @s24) ?_;refine cp t2 ?_;refine Ab (A7 @s5 @s7 @s14 @s17 @s22 @s23 @s24) ?_;refine cp t3 ?_;refine Ab (A7 @s5 @s7 @s14 @s17 @s22 @s23 @s24) ?_;refine cp kw ?_;refine Ab (An @s5 @s7 @s14 @s17 @s22 @s23 @s24 @hT1 @hT2 @hsw @w1) ?_;exact Aj (L.length-(i+1)) (by omega) ⟨Aa,Aa,Aa,Aa,Aa,Aa,i+1,acc++[wv],_,Aa,by rw[List.map_append,List.length_append];rfl,hst,by omega,rfl⟩
  ·obtain rfl:i=L.length:=by omega
   rw[List.take_of_length_le (by omega)]at hacc
   subst hacc;have hlt':¬(L.length:Int)<(L.length:Int):=by omega
   refine Ab (A8 @s5 @s7 @s14 @s17 @s22 @s23 @s24 @hlt') ?_;refine cp kr ?_;rcases hrq with⟨hrt,rfl⟩|⟨hrt,rfl⟩
   ·rw[hrt]
    refine Ab (A7 @s5 @s7 @s14 @s17 @s22 @s23 @s24) ?_;exact Au
   ·rw[hrt]
    generalize Bs k A=sd at *;refine Ab (A7 @s5 @s7 @s14 @s17 @s22 @s23 @s24) ?_;refine cp ks ?_;refine run ?_;exact Au
 | false=>
  obtain rfl:ge=ee:=hgEd;refine Ab (BZ @s2 @s3 @s5 @s6 @s7 @s8 @s14 @s16 @s17 @w2) ?_;refine cp kd ?_;refine Ab (A9 @s2 @s3 @s5 @s6 @s7 @s8 @s14 @s16 @s17) ?_;refine cp ksec ?_;refine Ab (A9 @s2 @s3 @s5 @s6 @s7 @s8 @s14 @s16 @s17) ?_;refine Cq (fun m e S=>e 5=AP ps∧e 7=.ptr 0 0∧e 14=.ptr 2 0∧e 17=Av L∧e 22=.ptr 3 0∧e 23=.st s ∧ ∃(i:Nat) (acc:List Wrap) (T:Ae),e 24=.it .i64 (i:Int)∧S=.cells [.it .i64 k.secret,.it .i64 k.pub]::.cells [.st c.id,Bu c.acts,.sl .ro (c.keys.map Bt),.st c.prev,.it .i64 c.gen,.bo c.fork]::.cells JP::.cells [.st c.id,.it .i64 (c.acts.length:Int),.st c.prev,.it .i64 16,.it .i64 time,.st [],.st [],.it .i64 1,.st [],Av L,.st [],.st [],.st [],.st [],.it .i64 ge,.sl (.own 4) (acc.map Bj),.it .i64 0,.it .i64 0,.it .i64 0,.it .i64 0]::.buf acc.length 92 5::T∧acc=W.take i∧i≤L.length∧m=L.length-i) L.length _ _ (Ao.reserveK 0 3 15 (by rfl) (by rfl) 92 5)
   ⟨Aa,Aa,Aa,Aa,Aa,Aa,0,[],[],Aa,rfl,by simp,by omega,rfl⟩ ?_
  clear s2 s3 s5 s6 s7 s8 s14 s16 s17 s18;rintro m e S ⟨s5,s7,s14,s17,s22,s23,i,acc,T,s24,rfl,hacc,hi,rfl⟩
  rw[Db s14];have hT1:∀y:SObj,(T++[y])[T.length]? = some y:=fun y=>by simp
  have hT2:∀y z:SObj,(T++[y]).set T.length z=T++[z]:=fun y z=>by simp
  have hal:acc.length=i:=by rw[hacc,List.length_take];omega
  have hsw:=R0 acc;by_cases hlt:i<L.length
  ·have hg:ps[i]? = some (ps[i]'(by omega)):=List.getElem?_eq_getElem (by omega)
   have hwi:=hwg i;rw[hg]at hwi;have hlt':(i:Int)<(L.length:Int):=by omega
   have hltp:(i:Int)<(ps.length:Int):=by omega
   have w1:=AT (k:=i) (by omega)
   have hpo:=hallp i _ hg;have t3:=B2 (i:Int) (by omega)
   have l3:=AI (i:Int) (by omega)
   generalize ps[i]'(by omega)=p at *
   have kw:=Sa p (x1++x2++Ai (i:Int)) s (by omega) (by simp only[List.length_append];omega) (by omega)
   change W[i]? = some (GX p (x1++x2++Ai (i:Int)) s)at hwi;generalize Ai (i:Int)=x3 at *;generalize GX p (x1++x2++x3) s=wv at *;have hst:acc++[wv]=W.take (i+1):=by
    obtain⟨h1,h2⟩:=List.getElem?_eq_some_iff.1 hwi
    rw[List.take_succ_eq_append_getElem h1,h2,hacc]
   refine Ab (An @s5 @s7 @s14 @s17 @s22 @s23 @s24 @hlt' @hltp @hg @hsp) ?_;refine cp t1 ?_;refine Ab (A7 @s5 @s7 @s14 @s17 @s22 @s23 @s24) ?_;refine cp t2 ?_;refine Ab (A7 @s5 @s7 @s14 @s17 @s22 @s23 @s24) ?_;refine cp t3 ?_;refine Ab (A7 @s5 @s7 @s14 @s17 @s22 @s23 @s24) ?_;refine cp kw ?_;refine Ab (An @s5 @s7 @s14 @s17 @s22 @s23 @s24 @hT1 @hT2 @hsw @w1) ?_;exact Aj (L.length-(i+1)) (by omega) ⟨Aa,Aa,Aa,Aa,Aa,Aa,i+1,acc++[wv],_,Aa,by rw[List.map_append,List.length_append];rfl,hst,by omega,rfl⟩
  ·obtain rfl:i=L.length:=by omega
   rw[List.take_of_length_le (by omega)]at hacc
   subst hacc;have hlt':¬(L.length:Int)<(L.length:Int):=by omega
   refine Ab (A8 @s5 @s7 @s14 @s17 @s22 @s23 @s24 @hlt') ?_;refine cp kr ?_;rcases hrq with⟨hrt,rfl⟩|⟨hrt,rfl⟩
   ·rw[hrt]
    refine Ab (A7 @s5 @s7 @s14 @s17 @s22 @s23 @s24) ?_;exact Au
   ·rw[hrt]
    generalize Bs k A=sd at *;refine Ab (A7 @s5 @s7 @s14 @s17 @s22 @s23 @s24) ?_;refine cp ks ?_;refine run ?_;exact Au
end Pe
end
section
namespace Pe
open Tryz
open Go Go.RowKit Co Sg Ac It Sl Tp
set_option maxRecDepth 100000
set_option maxHeartbeats 4000000
theorem P8(a:Ac.Act):AC prog 27 [Am a] [] (Ba a) []:=by
 refine Ah [] [] func27 ?_;refine run ?_;exact Au
theorem Qx(a:Ac.Act)(h:Iz (Ay a)):AC prog 62 [Am a] [] (.st (dg a)) []:=by
 have k1:=P8 a;have k2:=GQ a h;generalize dg a=d at *;refine Ah [27,67] [] func62 ?_;refine run ?_;refine cp k1 ?_;refine run ?_;refine cp k2 ?_;refine run ?_;exact Ad
theorem Zhm(ps:List Int)(l:List Ac.Act)(me:Int)(a:Ac.Act)(hl:l.length≤100)(hr:Bg l)(hz:Sz a):AC prog 26 [DX ps l,.it .i64 me,Am a] [] (.it .i64 (ES l me a)) []:=by
 obtain⟨q,hq⟩:∃q,ES l me a=q:=⟨_,rfl⟩
 rw[hq];unfold ES at hq;simp only at hq
 have k1:=Ih a hz;obtain⟨hok,_,_⟩:=NV hr a.author;have k3:=OD ps l a.author hl hr;have hcl:=hok.len;have hck:=hok.klen;generalize Bc l a.author=c at *;cases hra:Ac.right a with
 |false=>
  obtain rfl:q=1:=by rw[←hq,if_pos hra]
  rw[hra]at k1;refine Ah [63,62,64,56,33,65,66] [] func26 ?_;refine run ?_;refine cp k1 ?_;refine run ?_;exact Ad
 |true=>
 rw[if_neg (by rw[hra];decide)]at hq
 rw[hra]at k1;have hia:=(Dp (act_signed [] hra).1);have kid:=Qx a hia;have kha:=U8 ps l (dg a) (by omega) (fun x hx=>Dp (act_signed [] (hr x hx)).1)
 obtain⟨_,hn,hm⟩:=Rx hra;have ko:=Rs a.n hn;have kv:=Oh a.n a hz hn;have kf:=Q9 c a (by omega) hok.acts hz
 have hlast:=hok.last;have kw:=Oh (BM c).pub a hz (by omega)
 refine Ah [63,62,64,56,33,65,66] [] func26 ?_;refine run ?_;refine cp k1 ?_;refine run ?_;refine cp kid ?_;refine run ?_;refine cp kha ?_;cases hh:Ff l (dg a)with
 |true=>
  obtain rfl:q=13:=by rw[←hq,if_pos hh]
  refine run ?_;exact Ad
 |false=>
 rw[if_neg (by rw[hh];decide)]at hq
 refine run ?_;refine cp k3 ?_;by_cases h0:a.kind=0
 ·have q0:(a.kind==0)=true:=beq_iff_eq.2 h0
  rw[if_pos h0]at hq;by_cases h1:a.m=me
  rotate_left
  ·have q1:(a.m !=me)=true:=C6 h1
   obtain rfl:q=10:=by rw[←hq,if_pos h1]
   refine Ab (an @q0 @q1) ?_;exact Ad
  rw[if_neg (fun h=>h h1)]at hq
  have q1:(a.m !=me)=false:=Df h1;by_cases h2:c.acts=[]
  rotate_left
  ·have h2l:0<c.acts.length:=List.length_pos_iff.2 h2
   have q2:(c.acts.length:Int)>0:=by omega
   obtain rfl:q=13:=by rw[←hq,if_pos (.inl h2)]
   refine Ab (A3 @q0 @q1 @q2) ?_;exact Ad
  have h2l:c.acts.length=0:=by rw[h2];rfl
  have q2:¬(c.acts.length:Int)>0:=by omega
  cases h3:c.fork with
  |true=>
   obtain rfl:q=13:=by rw[←hq,if_pos (.inr h3)]
   refine Ab (A4 @q0 @q1 @q2 @h3) ?_;exact Ad
  |false=>
  rw[if_neg (fun h=>by rcases h with h|h;exact h h2;rw[h3]at h;cases h)]at hq
  by_cases h4:CL a.n=a.author
  rotate_left
  ·have q4:(CL a.n==a.author)=false:=Np h4
   obtain rfl:q=1:=by rw[←hq,if_pos h4]
   refine Ab (A4 @q0 @q1 @q2 @h3) ?_;refine cp ko ?_;refine Ab @q4 ?_;exact Ad
  rw[if_neg (fun h=>h h4)]at hq
  have q4:(CL a.n==a.author)=true:=Nq h4;refine Ab (A4 @q0 @q1 @q2 @h3) ?_;refine cp ko ?_;refine Ab @q4 ?_;refine cp kv ?_;cases h5:BO a.n a with
  |false=>
   obtain rfl:q=3:=by rw[←hq,if_pos h5]
   refine run ?_;exact Ad
  |true=>
   obtain rfl:q=0:=by rw[←hq,if_neg (by rw[h5];decide)]
   refine run ?_;exact Ad
 ·have q0:(a.kind==0)=false:=beq_eq_false_iff_ne.2 h0
  rw[if_neg h0]at hq;by_cases h2:c.acts=[]
  ·have h2l:c.acts.length=0:=by rw[h2];rfl
   have q2:((c.acts.length:Int)==0)=true:=beq_iff_eq.2 (by omega)
   obtain rfl:q=6:=by rw[←hq,if_pos h2]
   refine Ab (an @q0 @q2) ?_;exact Ad
  have h2l:0<c.acts.length:=List.length_pos_iff.2 h2;have q2:((c.acts.length:Int)==0)=false:=beq_eq_false_iff_ne.2 (by omega)
  rw[if_neg h2]at hq;cases h3:c.fork with
  |true=>
   obtain rfl:q=5:=by rw[←hq,if_pos h3]
   refine Ab (A3 @q0 @q2 @h3) ?_;exact Ad
  |false=>
  rw[if_neg (by rw[h3];decide)]at hq
  change AC _ _ [.agg [.st c.id,Bu c.acts,.sl .ro (c.keys.map Bt),.st c.prev,.it .i64 c.gen,.bo c.fork],Am a] _ _ _ at kf;rw[h3]at kf;have hkn:=hok.key h2;have hkl:0<c.keys.length:=List.length_pos_iff.2 hkn;have hszk:=GK c.keys;have hlk:=N8 hkn;have w0:IntKind.i64.wrap ((c.keys.length:Int)-1)=((c.keys.length-1:Nat):Int):=by rw[wrap64 (by omega) (by omega)];omega
  have hkb:((c.keys.length-1:Nat):Int)<(c.keys.length:Int):=by omega
  generalize BM c=lk at *;have step2:¬(lk.home≠me∧(a.kind≠18∨a.m≠me))→(lk.home !=me)=false∨((lk.home !=me)=true∧(a.kind !=18)=false∧(a.m !=me)=false):=fun h=>by
   by_cases e1:lk.home=me
   ·exact .inl (Df e1)
   ·by_cases e2:a.kind=18
    ·by_cases e3:a.m=me
     ·exact .inr ⟨C6 e1,Df e2,Df e3⟩
     ·exact absurd ⟨e1,.inr e3⟩ h
    ·exact absurd ⟨e1,.inl e2⟩ h
  by_cases h6:lk.home≠me∧(a.kind≠18∨a.m≠me)
  ·have q6:(lk.home !=me)=true:=C6 h6.1
   obtain rfl:q=10:=by rw[←hq,if_pos h6]
   by_cases e2:a.kind=18
   ·have q7:(a.kind !=18)=false:=Df e2
    have q8:(a.m !=me)=true:=C6 (h6.2.resolve_left (fun h=>h e2))
    refine Ab (BZ @q0 @q2 @h3 @w0 @hlk @hszk @hkb @q6 @q7 @q8) ?_;exact Ad
   ·have q7:(a.kind !=18)=true:=C6 e2
    refine Ab (A9 @q0 @q2 @h3 @w0 @hlk @hszk @hkb @q6 @q7) ?_;exact Ad
  rw[if_neg h6]at hq;cases h7:Bh c a with
  | false=>
   obtain rfl:q=4:=by rw[←hq,if_pos h7]
   rw[h7]at kf;rcases step2 h6 with q6|⟨q6,q7,q8⟩
   ·refine Ab (A8 @q0 @q2 @h3 @w0 @hlk @hszk @hkb @q6) ?_
    refine cp kf ?_;refine run ?_;exact Ad
   ·refine Ab (BZ @q0 @q2 @h3 @w0 @hlk @hszk @hkb @q6 @q7 @q8) ?_
    refine cp kf ?_;refine run ?_;exact Ad
  |true=>
  rw[if_neg (by rw[h7];decide)]at hq
  rw[h7]at kf;cases h8:BO lk.pub a with
  | false=>
   obtain rfl:q=3:=by rw[←hq,if_pos h8]
   rw[h8]at kw;rcases step2 h6 with q6|⟨q6,q7,q8⟩
   ·refine Ab (A8 @q0 @q2 @h3 @w0 @hlk @hszk @hkb @q6) ?_
    refine cp kf ?_;refine run ?_;refine cp kw ?_;refine run ?_;exact Ad
   ·refine Ab (BZ @q0 @q2 @h3 @w0 @hlk @hszk @hkb @q6 @q7 @q8) ?_
    refine cp kf ?_;refine run ?_;refine cp kw ?_;refine run ?_;exact Ad
  | true=>
   obtain rfl:q=0:=by rw[←hq,if_neg (by rw[h8];decide)]
   rw[h8]at kw;rcases step2 h6 with q6|⟨q6,q7,q8⟩
   ·refine Ab (A8 @q0 @q2 @h3 @w0 @hlk @hszk @hkb @q6) ?_
    refine cp kf ?_;refine run ?_;refine cp kw ?_;refine run ?_;exact Ad
   ·refine Ab (BZ @q0 @q2 @h3 @w0 @hlk @hszk @hkb @q6 @q7 @q8) ?_
    refine cp kf ?_;refine run ?_;refine cp kw ?_;refine run ?_;exact Ad
end Pe
end
section
namespace Pe
open Tryz
open Go Go.RowKit Co Sg Ac It Sl Tp
set_option maxRecDepth 100000
set_option maxHeartbeats 4000000
abbrev En(w:Wish):AV:=.agg [.it .i64 w.who,.it .i64 w.kind,.it .i64 w.on,.it .i64 w.whom,.st w.txt,.it .i64 w.spoil]
abbrev Em(n:Int):Prop:=-9223372036854775808≤n∧n≤9223372036854775807
structure Wz(w:Wish):Prop where
 who:Em w.who
 kind:Em w.kind
 on:Em w.on
 whom:Em w.whom
 txt:w.txt.length≤200
 spoil:Em w.spoil
theorem Of(n:Int):(CL n).length≤16:=by
 unfold CL;rw[List.length_take];omega
def Is(who me time:Int):Ac.Act:={ Al with author:=AE who,kind:=0,time:=time,text:=[97,99,116,111,114]++D1 (AL who 4).toNat,n:=(AF who 0).pub,m:=me }
theorem ZhV(who me time:Int):Sz (Is who me time):=by
 have h1:=Of (AF who 0).pub;have h2:=Oz (AL who 4).toNat;refine⟨?_,by show(0:Nat)≤_;omega,by show(0:Nat)≤_;omega,?_,(fun s hs=>nomatch hs),by show(0:Nat)≤_;omega,by show(0:Nat)≤_;omega⟩
 ·show(CL _).length≤_
  omega
 ·show([97,99,116,111,114]++D1 (AL who 4).toNat).length≤_
  rw[List.length_append];simp only[List.length_cons,List.length_nil];omega
theorem JV:Sz Al:=⟨by decide,by decide,by decide,by decide,(fun s hs=>nomatch hs),by decide,by decide⟩
theorem Lp(k:Key)(a:Ac.Act):Sz (Bs k a):=by
 unfold Bs;simp only
 split
 ·rename_i h
  rw[Bool.and_eq_true]at h;have :=SJ h.1;exact⟨this.author,this.target,this.group,this.text,this.tos,this.to,this.wraps⟩
 ·exact JV
theorem Rj(who me time:Int)(h:Em who):AC prog 14 [.it .i64 who,.it .i64 me,.it .i64 time] [] (Am (Bi who me time)) []:=by
 have hp:=Ke who (m:=4) (by decide)
 have k1:=L8 who 0 h (by decide)
 have k2:=Iv who h;have k3:=G5 who 4 h (by decide)
 have k4:=Ph (AL who 4).toNat (by omega)
 rw[show(((AL who 4).toNat:Nat):Int)=AL who 4 by omega]at k4
 have hi:=MI who 0;have hd:=Oz (AL who 4).toNat;have k5:=Mg (AF who 0) (Is who me time) (ZhV who me time) (by show(0:Nat)≤_;omega) (by show(0:Nat)≤_;omega) (by omega)
 have eV:Am (Is who me time)=.agg [.st (AE who),.it .i64 0,.st [],.it .i64 0,.it .i64 time,.st [],.st [],.it .i64 0,.st [],.sl .ro [],.st ([97,99,116,111,114]++D1 (AL who 4).toNat),.st [],.st [],.st [],.it .i64 0,.sl .ro [],.it .i64 (AF who 0).pub,.it .i64 me,.it .i64 0,.it .i64 0]:=rfl;rw[eV]at k5;change AC _ _ _ _ (Am (Bi who me time)) _ at k5;generalize Bi who me time=B at *;clear eV;generalize D1 (AL who 4).toNat=x at *;generalize AL who 4=p at *;generalize AE who=id at *;generalize AF who 0=k at *;refine Ah [29,11,37,36,38] [] func14 ?_;refine run ?_;refine cp k1 ?_;refine run ?_;refine cp k2 ?_;refine run ?_;refine cp k3 ?_;refine run ?_;refine cp k4 ?_;refine run ?_;refine cp k5 ?_;refine run ?_;exact Au
theorem ZcZ(l:List Ac.Act)(k:Nat)(h:k<l.length):Fw (l.take (k+1))=Fw (l.take k)++if Cx l[k].kind=true then [dg l[k]]else []:=by
 unfold Fw;rw[Ot _ l k h,List.map_append];split<;>rfl
theorem Zc1(ps:List Int)(l:List Ac.Act)(hl:l.length≤1000)(hr:Bg l):AC prog 211 [DX ps l] [] (Av (Fw l)) []:=by
 have hsz:=EL l;refine Ah [225,67] [] func211 ?_;refine run ?_;refine Cq (fun m e S=>e 1=.ptr 0 0 ∧ ∃(k:Nat) (acc:List By) (T:Ae),e 4=.it .i64 (k:Int)∧e 3=.sl (.own 1) (acc.map .st)∧S=.cells [AP ps,.sl .ro (l.map Ba)]::.buf acc.length 9 1::T∧acc=Fw (l.take k)∧k≤l.length∧m=l.length-k) l.length _ _ (Ao.reserve 0 3 (es:=[]) (by rfl) 9 1)
  ⟨Aa,0,[],[],Aa,Aa,rfl,by simp[Fw],by omega,rfl⟩ ?_
 rintro m e S ⟨s1,k,acc,T,s4,s3,rfl,hacc,hk,rfl⟩
 have hal:acc.length≤k:=by
  rw[hacc,Fw,List.length_map];exact Nat.le_trans (List.length_filter_le _ _) (by rw[List.length_take];omega)
 have hsa:AK 1 (acc.map AV.st)=true:=BG 1 AV.st (fun _=>rfl) _
 by_cases hlt:k<l.length
 ·have hg:l[k]? = some l[k]:=List.getElem?_eq_getElem hlt
  have hst:=ZcZ l k hlt;rw[←hacc]at hst;have hlt':(k:Int)<(l.length:Int):=by omega
  have w1:=AT (k:=k) (by omega)
  have kd:=GQ l[k] (Dp (act_signed [] (hr _ (List.getElem_mem hlt))).1);have kp:=V3 l[k].kind;generalize l[k]=a at *;generalize dg a=d at *;have hkk:((Ay a).kind==0)=true:=rfl;change AC _ _ [.it .i64 (Ay a).act.kind] _ _ _ at kp;cases hp:Cx a.kind with
  |true=>
   rw[hp]at kp hst;rw[if_pos rfl]at hst;refine Ab (A7 @s1 @s4 @s3 @hlt' @hg @hsz @w1) ?_;refine cp kp ?_;refine Ab (A7 @s1 @s4 @s3 @hg @hsz @hlt' @hkk) ?_;refine cp kd ?_;refine Ab (A5 @s1 @s4 @s3 @hsa @w1) ?_;exact Aj (l.length-(k+1)) (by omega) ⟨Aa,k+1,acc++[d],_,Aa,by rw[List.map_append];exact Aa,by rw[List.length_append];rfl,hst.symm,by omega,rfl⟩
  |false=>
   rw[hp]at kp hst;rw[if_neg (by decide),List.append_nil]at hst
   refine Ab (A7 @s1 @s4 @s3 @hlt' @hg @hsz @w1) ?_;refine cp kp ?_;refine Ab (A8 @s1 @s4 @s3 @hg @hsz @hlt' @hkk @w1) ?_;exact Aj (l.length-(k+1)) (by omega) ⟨Aa,k+1,acc,_,Aa,Aa,rfl,hst.symm,by omega,rfl⟩
 ·obtain rfl:k=l.length:=by omega
  rw[List.take_length]at hacc;subst hacc;have hlt':¬(l.length:Int)<(l.length:Int):=by omega
  refine Ab (A4 @s1 @s4 @s3 @hlt') ?_;exact Au
theorem Zc0(l:List Ac.Act):(Fw l).length≤l.length:=by
 rw[Fw,List.length_map];exact List.length_filter_le _ _
theorem JZ(k:Key)(d:Ac.Act):Ac.right (Bs k d)=true∨Bs k d=Al:=by
 by_cases h:(Ac.right { d with sig:=Cn }&&k.right)=true
 ·rw[Bool.and_eq_true]at h
  have hv:=S6 (a:=d) h.1 h.2;unfold BO at hv;rw[Bool.and_eq_true]at hv;exact .inl hv.1
 ·refine .inr ?_
  unfold Bs;simp only
  rw[if_neg h]
theorem Zc5(ps:List Int)(l:List Ac.Act)(on:Int)(hl:l.length≤1000)(hr:Bg l)(ho:Em on):AC prog 128 [DX ps l,.it .i64 on] [] (.st (LM l on)) []:=by
 have k1:=Zc1 ps l hl hr;have hpl:=Zc0 l;have k2:=Rj 0 0 0 (by decide)
 have k3:=P8 (Bi 0 0 0);have k4:=GQ (Bi 0 0 0) (Qp (JZ _ _));unfold LM;generalize Fw l=L at *;have hszL:AK 1 (L.map AV.st)=true:=BG 1 AV.st (fun _=>rfl) _
 by_cases h0:L=[]
 ·subst h0
  rw[if_pos rfl];generalize dg (Bi 0 0 0)=d at *;generalize Bi 0 0 0=b at *;refine Ah [211,14,27,67,37] [] func128 ?_;refine run ?_;refine cp k1 ?_;refine run ?_;refine cp k2 ?_;refine run ?_;refine cp k3 ?_;refine run ?_;refine cp k4 ?_;refine run ?_;exact Ad
 ·have hL:0<L.length:=List.length_pos_iff.2 h0
  have k5:=G5 on (L.length:Int) ho (by omega)
  have hp:=Ke on (m:=(L.length:Int)) (by omega)
  have q0:((L.length:Int)==0)=false:=beq_eq_false_iff_ne.2 (by omega)
  rw[if_neg h0];have hg:L[(AL on (L.length:Int)).toNat]? = some (L.getD (AL on (L.length:Int)).toNat []):=by rw[List.getD_eq_getElem?_getD,List.getElem?_eq_getElem (by omega)];rfl
  generalize L.getD (AL on (L.length:Int)).toNat []=d at *;generalize AL on (L.length:Int)=p at *;have hp1:0≤p:=hp.1;have hp2:p<(L.length:Int):=hp.2;refine Ah [211,14,27,67,37] [] func128 ?_;refine run ?_;refine cp k1 ?_;refine Ab @q0 ?_;refine cp k5 ?_;refine Ab (A4 @hg @hszL @hp1 @hp2) ?_;exact Ad
theorem U5(c:Chn)(low high:Int)(hl:c.acts.length≤1000)(h0:c.acts≠[])(hr:Bg c.acts):AC prog 129 [AG c,.it .i64 low,.it .i64 high] [] (.st (Ie c low high)) []:=by
 obtain⟨id,acts,keys,prev,gen,fork⟩:=c;simp only at hl h0 hr
 have hsz:=BX acts;have hpos:0<acts.length:=List.length_pos_iff.2 h0;have w0:IntKind.i64.wrap ((acts.length:Int)-1)=((acts.length-1:Nat):Int):=by rw[wrap64 (by omega) (by omega)];omega
 have htl:acts.tail.length=acts.length-1:=List.length_tail;have hkd:∀j,j<acts.length → ∀a,acts[j]? = some a→AC prog 62 [Am a] [] (.st (dg a)) []:=fun j _ a ha=>Qx a (Dp (act_signed [] (hr _ (List.mem_of_getElem? ha))).1)
 have hfst:acts[0]? = some (acts.getD 0 Al):=by rw[List.getD_eq_getElem?_getD,List.getElem?_eq_getElem hpos];rfl
 obtain⟨r,hrr⟩:∃r,Ie ⟨id,acts,keys,prev,gen,fork⟩ low high=r:=⟨_,rfl⟩
 rw[hrr];unfold Ie at hrr;simp only at hrr
 refine Ah [62] [] func129 ?_;refine Ab @w0 ?_;refine AN (fun m e S=>e 1=.it .i64 low∧e 2=.it .i64 high∧e 3=.ptr 0 0∧S=[.cells [.st id,Bu acts,.sl .ro (keys.map Bt),.st prev,.it .i64 gen,.bo fork]] ∧ ∃j:Nat,e 7=.it .i64 (j:Int)∧j≤acts.length-1∧acts.tail.reverse.find? (fun a=>decide (low≤a.kind)&&decide (a.kind≤high))=(acts.tail.take j).reverse.find? (fun a=>decide (low≤a.kind)&&decide (a.kind≤high))∧m=j) (acts.length-1) ⟨Aa,Aa,Aa,rfl,acts.length-1,Aa,Nat.le_refl _,by rw[←htl,List.take_length],rfl⟩ ?_
 rintro m e S ⟨s1,s2,s3,rfl,j,s7,hj,hf,rfl⟩
 cases m with
 |zero=>
  have hn:¬((0:Nat):Int)>0:=by omega
  have hp0:(0:Int)<(acts.length:Int):=by omega
  have hv:acts.tail.reverse.find? (fun a=>decide (low≤a.kind)&&decide (a.kind≤high))=none:=hf
  rw[hv]at hrr;have hrr:dg (acts.getD 0 Al)=r:=hrr;have kd:=hkd 0 hpos _ hfst;rw[hrr]at kd;generalize acts.getD 0 Al=a at *;refine Ab (A8 @s1 @s2 @s3 @s7 @hn @hfst @hsz @hp0) ?_;refine cp kd ?_;refine Ab (A4 @s1 @s2 @s3 @s7) ?_;exact Ad
 | succ j=>
  have hjl:j<acts.tail.length:=by omega
  have hg:acts[j+1]? = some acts.tail[j]:=by
   have:acts.tail[j]? = some acts.tail[j]:=List.getElem?_eq_getElem hjl
   rw[List.getElem?_tail]at this
   exact this
  have hp:((j+1:Nat):Int)>0:=by omega
  have hpl:((j+1:Nat):Int)<(acts.length:Int):=by omega
  have htk:(acts.tail.take (j+1)).reverse=acts.tail[j]::(acts.tail.take j).reverse:=by rw[List.take_succ_eq_append_getElem hjl,List.reverse_append];rfl
  rw[htk,List.find?_cons]at hf
  have w1:IntKind.i64.wrap (((j+1:Nat):Int)-1)=(j:Int):=by rw[wrap64 (by omega) (by omega)];omega
  have kd:=hkd (j+1) (by omega) _ hg
  generalize acts.tail[j]=a at *;by_cases c1:a.kind≥low
  ·have d1:decide (low≤a.kind)=true:=decide_eq_true c1
   by_cases c2:a.kind≤high
   ·have d2:decide (a.kind≤high)=true:=decide_eq_true c2
    rw[d1,d2]at hf;have hf:acts.tail.reverse.find? (fun a=>decide (low≤a.kind)&&decide (a.kind≤high))=some a:=hf
    rw[hf]at hrr;have hrr:dg a=r:=hrr;rw[hrr]at kd;refine Ab (BZ @s1 @s2 @s3 @s7 @hp @hpl @hg @hsz @c1 @c2) ?_;refine cp kd ?_;refine Ab (A4 @s1 @s2 @s3 @s7) ?_;exact Ad
   ·have d2:decide (a.kind≤high)=false:=decide_eq_false c2
    rw[d1,d2]at hf;refine Ab (An @s1 @s2 @s3 @s7 @hp @hpl @hg @hsz @c1 @c2 @w1) ?_;exact Aj j (by omega) ⟨Aa,Aa,Aa,rfl,j,Aa,by omega,hf,rfl⟩
  ·have d1:decide (low≤a.kind)=false:=decide_eq_false c1
   rw[d1]at hf;refine Ab (BZ @s1 @s2 @s3 @s7 @hp @hpl @hg @hsz @c1 @w1) ?_;exact Aj j (by omega) ⟨Aa,Aa,Aa,rfl,j,Aa,by omega,hf,rfl⟩
theorem ZcP(ps:List Int)(l:List Ac.Act)(ids:List By)(hl:l.length≤100)(hr:Bg l)(hi:ids.length≤1000):AC prog 126 [DX ps l,Av ids] [] (AP (CY l ids)) []:=by
 have hszI:AK 1 (ids.map AV.st)=true:=BG 1 AV.st (fun _=>rfl) _
 have kc:=fun id=>OD ps l id hl hr
 have hok:=fun id=>(NV hr id).1
 refine Ah [56] [] func126 ?_;refine run ?_;refine Cq (fun m e S=>e 1=Av ids∧e 2=.ptr 0 0 ∧ ∃(k:Nat) (acc:List Int) (T:Ae),e 6=.it .i64 (k:Int)∧e 5=.sl (.own 1) (acc.map (AV.it .i64))∧S=.cells [AP ps,.sl .ro (l.map Ba)]::.buf acc.length 3 1::T∧acc=CY l (ids.take k)∧k≤ids.length∧m=ids.length-k) ids.length _ _ (Ao.reserve 0 5 (es:=[]) (by rfl) 3 1)
  ⟨Aa,Aa,0,[],[],Aa,Aa,rfl,by simp[CY],by omega,rfl⟩ ?_
 rintro m e S ⟨s1,s2,k,acc,T,s6,s5,rfl,hacc,hk,rfl⟩
 have hal:acc.length≤k:=by rw[hacc,CY,List.length_map,List.length_take];omega
 have hsa:AK 1 (acc.map (AV.it .i64))=true:=BG 1 (AV.it .i64) (fun _=>rfl) _
 have hT1:∀y:SObj,(T++[y])[T.length]? = some y:=fun y=>by simp
 have hT2:∀y z:SObj,(T++[y]).set T.length z=T++[z]:=fun y z=>by simp
 by_cases hlt:k<ids.length
 ·have hg:ids[k]? = some ids[k]:=List.getElem?_eq_getElem hlt
  have hst:acc++[if(Bc l ids[k]).keys=[]then 1 else(BM (Bc l ids[k])).pub]=CY l (ids.take (k+1)):=by
   rw[hacc,CY,CY,List.take_succ_eq_append_getElem hlt,List.map_append];rfl
  have hlt':(k:Int)<(ids.length:Int):=by omega
  have w1:=AT (k:=k) (by omega)
  have kx:=kc ids[k];have hox:=hok ids[k];generalize ids[k]=id at *;generalize Bc l id=c at *;have hck:=hox.klen;have hszk:=GK c.keys;by_cases h0:c.keys=[]
  ·rw[if_pos h0]at hst
   have hkl:c.keys.length=0:=by rw[h0];rfl
   have q0:¬(c.keys.length:Int)>0:=by omega
   refine Ab (A7 @s1 @s2 @s6 @s5 @hlt' @hg @hszI) ?_;refine cp kx ?_;refine Ab (A9 @s1 @s2 @s6 @s5 @hT1 @hT2 @q0 @hsa @w1) ?_;exact Aj (ids.length-(k+1)) (by omega) ⟨Aa,Aa,k+1,acc++[1],_,Aa,by rw[List.map_append];exact Aa,by rw[List.length_append];rfl,hst,by omega,rfl⟩
  ·rw[if_neg h0]at hst
   have hkl:0<c.keys.length:=List.length_pos_iff.2 h0;have q0:(c.keys.length:Int)>0:=by omega
   have hlk:=N8 h0;have w0:IntKind.i64.wrap ((c.keys.length:Int)-1)=((c.keys.length-1:Nat):Int):=by rw[wrap64 (by omega) (by omega)];omega
   have hkb:((c.keys.length-1:Nat):Int)<(c.keys.length:Int):=by omega
   generalize BM c=lk at *;refine Ab (A7 @s1 @s2 @s6 @s5 @hlt' @hg @hszI) ?_;refine cp kx ?_;refine Ab (an @s1 (an @s2 (An @s6 @s5 @hT1 @hT2 @q0 @hlk @hszk @w0 @hkb @hsa @w1))) ?_;exact Aj (ids.length-(k+1)) (by omega) ⟨Aa,Aa,k+1,acc++[lk.pub],_,Aa,by rw[List.map_append];exact Aa,by rw[List.length_append];rfl,hst,by omega,rfl⟩
 ·obtain rfl:k=ids.length:=by omega
  rw[List.take_length]at hacc;subst hacc;have hlt':¬(ids.length:Int)<(ids.length:Int):=by omega
  refine Ab (A5 @s1 @s2 @s6 @s5 @hlt') ?_;exact Au
theorem Zev(w:Wish)(h:Em w.kind):AC prog 59 [En w] [] (.it .i64 (Ca w)) []:=by
 have k1:=G5 w.kind 16 h (by decide)
 have hp:=Ke w.kind (m:=16) (by decide)
 have hg:([AV.it .i64 1,.it .i64 1,.it .i64 2,.it .i64 3,.it .i64 5,.it .i64 4,.it .i64 6,.it .i64 7,.it .i64 8,.it .i64 10,.it .i64 11,.it .i64 13,.it .i64 14,.it .i64 15,.it .i64 18,.it .i64 (-1)]:List AV)[(AL w.kind 16).toNat]? = some (.it .i64 (Ca w)):=by
  have h1:∀n:Nat,n<16→([AV.it .i64 1,.it .i64 1,.it .i64 2,.it .i64 3,.it .i64 5,.it .i64 4,.it .i64 6,.it .i64 7,.it .i64 8,.it .i64 10,.it .i64 11,.it .i64 13,.it .i64 14,.it .i64 15,.it .i64 18,.it .i64 (-1)]:List AV)[n]? = some (.it .i64 (([1,1,2,3,5,4,6,7,8,10,11,13,14,15,18,-1]:List Int).getD n 0)):=fun n hn=>by
   match n,hn with
   |0,_=>rfl
   |1,_=>rfl
   |2,_=>rfl
   |3,_=>rfl
   |4,_=>rfl
   |5,_=>rfl
   |6,_=>rfl
   |7,_=>rfl
   |8,_=>rfl
   |9,_=>rfl
   |10,_=>rfl
   |11,_=>rfl
   |12,_=>rfl
   |13,_=>rfl
   |14,_=>rfl
   |15,_=>rfl
   |n+16,hn=>omega
  exact h1 _ (by omega)
 generalize Ca w=kd at *;generalize AL w.kind 16=p at *;have hp1:0≤p:=hp.1;have hp2:p<16:=hp.2;refine Ah [37] [] func59 ?_;refine run ?_;refine cp k1 ?_;refine Ab (A3 @hg @hp1 @hp2) ?_;exact Ad
theorem UK(c:Chn)(hl:c.keys.length≤1000)(h0:c.keys≠[]):AC prog 57 [AG c] [] (.it .i64 ((c.keys.length-1:Nat):Int)) []:=by
 have hkl:0<c.keys.length:=List.length_pos_iff.2 h0;have w0:IntKind.i64.wrap ((c.keys.length:Int)-1)=((c.keys.length-1:Nat):Int):=by rw[wrap64 (by omega) (by omega)];omega
 refine Ah [] [] func57 ?_;refine Ab @w0 ?_;exact Ad
end Pe
end
section
namespace Pe
open Tryz
open Go Go.RowKit Co Sg Ac It Sl Tp
set_option maxRecDepth 100000
set_option maxHeartbeats 8000000
theorem ZfQ(ps:List Int)(l:List Ac.Act)(c:Chn)(w:Wish)(a:Ac.Act)(hl:l.length≤100)(hr:Bg l)(hw:Wz w)(hcl:c.acts.length≤300)(hck:c.keys.length≤90)(h0:c.acts≠[])(hk0:c.keys≠[])(hrc:Bg c.acts):
  AC prog 61 [DX ps l,AG c,En w,Am a] [] (Am (Dy l c w a)) []:=by
 have hkl:0<c.keys.length:=List.length_pos_iff.2 hk0;have kpost:=Zc5 ps l w.on (by omega) hr hw.on
 have kl1:=U5 c 4 11 (by omega) h0 hrc
 have kl2:=U5 c 1 3 (by omega) h0 hrc
 have kact:=Iv w.whom hw.whom;have kmv:=UK c (by omega) hk0
 have kkey:=L8 w.who c.keys.length hw.who (by omega)
 have kpk:=G5 w.whom 3 hw.whom (by decide)
 have w1:IntKind.i64.wrap (((c.keys.length-1:Nat):Int)+1)=(c.keys.length:Int):=by rw[wrap64 (by omega) (by omega)];omega
 obtain⟨q,hq⟩:∃q,Dy l c w a=q:=⟨_,rfl⟩
 rw[hq];unfold Dy at hq;obtain⟨a1,a2,a3,a4,a5,a6,a7,a8,a9,a10,a11,⟨b1,b2,b3⟩,a12,a13,a14,a15,⟨g1,g2⟩⟩:=a;simp only at hq
 generalize LM l w.on=po at *;generalize Ie c 4 11=la at *;generalize Ie c 1 3=lb at *;generalize AE w.whom=ac at *;generalize AF w.who c.keys.length=kk at *;generalize AL w.whom 3=pk at *;by_cases c1:a4=1
 ·subst c1
  have hq:=hq.symm;simp at hq
  subst hq;refine Ah [128,129,11,57,29,37] [] func61 ?_;refine run ?_;exact Au
 by_cases c2:a4=2
 ·subst c2
  have hq:=hq.symm;simp at hq
  subst hq;refine Ah [128,129,11,57,29,37] [] func61 ?_;refine run ?_;refine cp kpost ?_;refine Ab @w1 ?_;exact Au
 by_cases c3:a4=3
 ·subst c3
  have hq:=hq.symm;simp at hq
  subst hq;refine Ah [128,129,11,57,29,37] [] func61 ?_;refine run ?_;refine cp kpost ?_;refine Ab @w1 ?_;exact Au
 by_cases c5:a4=5
 ·subst c5
  have hq:=hq.symm;simp at hq
  subst hq;refine Ah [128,129,11,57,29,37] [] func61 ?_;refine run ?_;refine cp kpost ?_;refine Ab @w1 ?_;exact Au
 by_cases c4:a4=4
 ·subst c4
  have hq:=hq.symm;simp at hq
  subst hq;refine Ah [128,129,11,57,29,37] [] func61 ?_;refine run ?_;refine cp kpost ?_;refine Ab @w1 ?_;exact Au
 by_cases c6:a4=6
 ·subst c6
  have hq:=hq.symm;simp at hq
  subst hq;refine Ah [128,129,11,57,29,37] [] func61 ?_;refine run ?_;refine cp kl1 ?_;refine Ab @w1 ?_;exact Au
 by_cases c13:a4=13
 ·subst c13
  have hq:=hq.symm;simp at hq
  subst hq;refine Ah [128,129,11,57,29,37] [] func61 ?_;refine run ?_;refine cp kl2 ?_;refine Ab @w1 ?_;exact Au
 by_cases c14:a4=14
 ·subst c14
  have hq:=hq.symm;simp at hq
  subst hq;refine Ah [128,129,11,57,29,37] [] func61 ?_;refine run ?_;refine cp kl2 ?_;refine Ab @w1 ?_;exact Au
 by_cases c15:a4=15
 ·subst c15
  have hq:=hq.symm;simp at hq
  subst hq;refine Ah [128,129,11,57,29,37] [] func61 ?_;refine run ?_;refine cp kact ?_;refine Ab @w1 ?_;exact Au
 by_cases c18:a4=18
 ·subst c18
  have hq:=hq.symm;simp at hq
  subst hq;refine Ah [128,129,11,57,29,37] [] func61 ?_;refine run ?_;refine cp kmv ?_;refine Ab @w1 ?_;refine cp kkey ?_;refine Ab @w1 ?_;refine cp kpk ?_;refine Ab @w1 ?_;exact Au
 have hq:=hq.symm;simp[c1,c2,c3,c5,c4,c6,c13,c14,c15,c18]at hq
 subst hq;have q1:(a4==1)=false:=beq_eq_false_iff_ne.2 c1;have q2:(a4==2)=false:=beq_eq_false_iff_ne.2 c2;have q3:(a4==3)=false:=beq_eq_false_iff_ne.2 c3;have q5:(a4==5)=false:=beq_eq_false_iff_ne.2 c5;have q4:(a4==4)=false:=beq_eq_false_iff_ne.2 c4;have q6:(a4==6)=false:=beq_eq_false_iff_ne.2 c6;have q13:(a4==13)=false:=beq_eq_false_iff_ne.2 c13;have q14:(a4==14)=false:=beq_eq_false_iff_ne.2 c14;have q15:(a4==15)=false:=beq_eq_false_iff_ne.2 c15;have q18:(a4==18)=false:=beq_eq_false_iff_ne.2 c18;refine Ah [128,129,11,57,29,37] [] func61 ?_;refine Ab (BZ @q1 @q2 @q3 @q5 @q4 @q6 @q13 @q14 @q15 @q18) ?_;refine cp kact ?_;refine run ?_;exact Au
theorem ZbK(ps:List Int)(l:List Ac.Act)(c:Chn)(key:Key)(w:Wish)(time:Int)(hl:l.length≤50)(hr:Bg l)(hw:Wz w)(hk:key.right=true)(hcl:c.acts.length≤60)(hck:c.keys.length≤90)(hrc:Bg c.acts)(hid:c.id.length≤1000)(hpv:c.prev.length≤1000):
  AC prog 60 [DX ps l,AG c,E9 key,En w,.it .i64 time] [] (Am (GF l c key w time)) []:=by
 have hkr:=Key.right_iff.1 hk;have htx:=hw.txt;have kd:=Ra c 1 time (by omega)
 have kp:=Zc6 key c time w.txt hk (by omega) (by omega) hrc hid hpv (by omega)
 have km:=Qf c c.acts.length (by omega) (by omega) hrc
 have hml:=Qe c c.acts.length;have kpu:=ZcP ps l (AR c c.acts.length) (by omega) hr (by omega)
 have hpl:(CY l (AR c c.acts.length)).length=(AR c c.acts.length).length:=by rw[CY,List.length_map]
 have kg:=Zft key c (CY l (AR c c.acts.length)) time hk (by omega) (by omega) hrc hid hpl
 have hgf:=Zfq key c (CY l (AR c c.acts.length)) time (by omega)
 have hsd:Sz { BU c 1 time with text:=w.txt }:=⟨by show c.id.length≤_;omega,by show(0:Nat)≤_;omega,by show(0:Nat)≤_;omega,by show w.txt.length≤_;omega,(fun s hs=>nomatch hs),by show(0:Nat)≤_;omega,by show(0:Nat)≤_;omega⟩
 have ks:=Mg key { BU c 1 time with text:=w.txt } hsd (by show(0:Nat)≤_;omega) (by show(0:Nat)≤_;omega) (by omega)
 have eV:Am { BU c 1 time with text:=w.txt }=.agg [.st c.id,.it .i64 (c.acts.length:Int),.st c.prev,.it .i64 1,.it .i64 time,.st [],.st [],.it .i64 0,.st [],.sl .ro [],.st w.txt,.st [],.st [],.st [],.it .i64 0,.sl .ro [],.it .i64 0,.it .i64 0,.it .i64 0,.it .i64 0]:=rfl
 rw[eV]at ks;obtain⟨q,hq⟩:∃q,GF l c key w time=q:=⟨_,rfl⟩
 rw[hq];unfold GF at hq;rw[←hgf]at hq;generalize Bs key { BU c 1 time with text:=w.txt }=sg at *
 generalize Jn key c (CY l (AR c c.acts.length)) time=gq at *;generalize EI key c time w.txt=r at *;obtain⟨pa,pe⟩:=r;generalize CY l (AR c c.acts.length)=P at *;generalize AR c c.acts.length=M at *;obtain⟨ga,gerr⟩:=gq;simp only at hq kp kg
 have hszP:AK 1 (P.map (AV.it .i64))=true:=BG 1 (AV.it .i64) (fun _=>rfl) _
 by_cases h11:pe=11
 rotate_left
 ·obtain rfl:q=pa:=by rw[←hq,if_pos h11]
  have n11:(pe !=11)=true:=C6 h11;refine Ah [58,124,125,126,38,127] [] func60 ?_;refine run ?_;refine cp kd ?_;refine run ?_;refine cp kp ?_;refine Ab @n11 ?_;exact Ad
 rw[if_neg (fun h=>h h11)]at hq
 have n11:(pe !=11)=false:=Df h11;refine Ah [58,124,125,126,38,127] [] func60 ?_;refine run ?_;refine cp kd ?_;refine run ?_;refine cp kp ?_;refine Ab @n11 ?_;refine cp km ?_;refine run ?_;refine cp kpu ?_;refine run ?_;refine AN (fun m e S=>e 4=.it .i64 time∧e 5=.ptr 0 0∧e 6=.ptr 1 0∧e 7=.ptr 2 0∧e 8=.ptr 3 0∧e 10=.ptr 4 0∧e 11=.ptr 5 0∧e 12=.ptr 6 0∧e 15=AP P∧S=[.cells [AP ps,.sl .ro (l.map Ba)],.cells (Q7 c),.cells [.it .i64 key.secret,.it .i64 key.pub],.cells [.it .i64 w.who,.it .i64 w.kind,.it .i64 w.on,.it .i64 w.whom,.st w.txt,.it .i64 w.spoil],.cells JP,.cells (JA (BU c 1 time)),.cells (JA pa)] ∧ ∃i:Nat,e 16=.it .i64 (i:Int)∧(∀(j:Nat) (p:Int),j<i→P[j]? = some p→(p==1)=false)∧i≤P.length∧m=P.length-i) P.length ⟨Aa,Aa,Aa,Aa,Aa,Aa,Aa,Aa,Aa,rfl,0,Aa,fun j p h=>absurd h (Nat.not_lt_zero _),by omega,rfl⟩ ?_
 rintro m e S ⟨s4,s5,s6,s7,s8,s10,s11,s12,s15,rfl,i,s16,hall,hi,rfl⟩
 rw[Db s10];by_cases hlt:i<P.length
 ·have hg:P[i]? = some P[i]:=List.getElem?_eq_getElem hlt
  have hlt':(i:Int)<(P.length:Int):=by omega
  have w1:=AT (k:=i) (by omega)
  generalize P[i]=p at *;cases h1:(p==1)with
  |true=>
   have hany:P.any (fun p=>p==1)=true:=List.any_eq_true.2 ⟨p,List.mem_of_getElem? hg,h1⟩
   obtain rfl:q=sg:=by rw[←hq,if_pos hany]
   refine Ab (an @s4 (an @s5 (an @s6 (An @s7 @s8 @s10 @s11 @s12 @s15 @s16 @hlt' @hg @hszP @h1)))) ?_;refine cp ks ?_;refine Ab @s10 ?_;exact Ad
  | false=>
   refine Ab (an @s4 (an @s5 (an @s6 (an @s7 (An @s8 @s10 @s11 @s12 @s15 @s16 @hlt' @hg @hszP @h1 @w1))))) ?_;exact Aj (P.length-(i+1)) (by omega) ⟨Aa,Aa,Aa,Aa,Aa,Aa,Aa,Aa,Aa,rfl,i+1,Aa,(fun j p' hj hp=>by
    by_cases ej:j=i
    ·subst ej;rw[hg]at hp;cases hp;exact h1
    ·exact hall j p' (by omega) hp),by omega,rfl⟩
 ·obtain rfl:i=P.length:=by omega
  have hany:P.any (fun p=>p==1)=false:=by
   rw[List.any_eq_false];intro p hp;obtain⟨j,hj⟩:=List.mem_iff_getElem?.1 hp;rw[hall j p (List.getElem?_eq_some_iff.1 hj).1 hj]
   decide
  obtain rfl:q=ga:=by rw[←hq,if_neg (by rw[hany];decide)]
  have hlt':¬(P.length:Int)<(P.length:Int):=by omega
  refine Ab (An @s4 @s5 @s6 @s7 @s8 @s10 @s11 @s12 @s15 @s16 @hlt') ?_;refine cp kg ?_;refine Ab (an @s10 @s12) ?_;exact Ad
end Pe
end
section
namespace Pe
open Tryz
open Go Go.RowKit Co Sg Ac It Sl Tp
set_option maxRecDepth 100000
set_option maxHeartbeats 8000000
theorem Xd(a:Ac.Act):(dg a).length≤32:=by
 unfold dg It.digest;split
 ·exact Nat.zero_le _
 ·exact Nat.le_refl 32
theorem VO:∀(n:Nat) (l:List Ac.Act) (c:Chn),c.prev.length≤32→(C3 n l c).prev.length≤32
 |0,_,_,h=>h
 |n+1,l,c,h=>by
  unfold C3;split
  ·exact VO n l _ (Xd _)
  ·exact h
  ·exact h
theorem Zdu(k:List Ac.Act)(id:By):(Bc k id).prev.length≤32:=by
 unfold Bc;split
 ·exact VO _ _ _ (Xd _)
 ·exact Nat.zero_le _
 ·exact Nat.zero_le _
theorem Zc3(k:Key)(c:Chn)(time:Int)(txt:By):Sz (EI k c time txt).1:=by
 rw[PS];split
 ·exact JV
 split
 ·exact JV
 split
 ·exact JV
 split
 ·exact JV
 ·exact Lp _ _
theorem Zfo(k:Key)(c:Chn)(ps:List Int)(time:Int):Sz (Gq k c ps time):=by
 unfold Gq;simp only
 repeat' split
 all_goals first|exact JV|exact Lp _ _
theorem ZbJ(k:List Ac.Act)(c:Chn)(key:Key)(w:Wish)(time:Int):Sz (GF k c key w time):=by
 unfold GF;split
 ·exact Zc3 _ _ _ _
 split
 ·exact Lp _ _
 ·exact Zfo _ _ _ _
theorem UT(k:List Ac.Act)(me time:Int)(w:Wish):Sz (Dd k me time w):=by
 unfold Dd;simp only
 split
 ·unfold Bi;exact Lp _ _
 split
 ·exact ZbJ _ _ _ _ _
 ·exact Lp _ _
theorem US(k:List Ac.Act)(me time:Int)(w:Wish):(Dd k me time w).text.length≤1000:=by
 have hs:∀key a,(Bs key a).text.length≤1000:=fun key a=>by
  unfold Bs;simp only
  split
  ·rename_i h
   rw[Bool.and_eq_true]at h;have :=(Cp h.1).text;show a.text.length≤1000
   change a.text.length≤500 at this;omega
  ·exact Nat.zero_le _
 have hp:∀key c,(EI key c time w.txt).1.text.length≤1000:=fun key c=>by
  rw[PS];split
  ·exact Nat.zero_le _
  split
  ·exact Nat.zero_le _
  split
  ·exact Nat.zero_le _
  split
  ·exact Nat.zero_le _
  ·exact hs _ _
 have hg:∀key c ps,(Gq key c ps time).text.length≤1000:=fun key c ps=>by
  unfold Gq;simp only
  repeat' split
  all_goals first|exact Nat.zero_le _|exact hs _ _
 unfold Dd;simp only
 split
 ·unfold Bi;exact hs _ _
 split
 ·unfold GF
  split
  ·exact hp _ _
  split
  ·exact hs _ _
  ·exact hg _ _ _
 ·exact hs _ _
theorem ZdZ(k:List Ac.Act)(me time:Int)(w:Wish):Sz (B4 k me time w):=by
 have h:=UT k me time w;have ht:=US k me time w;have hid:=Of (AF (IntKind.i64.wrap (w.who+1)) 0).pub;unfold B4;simp only
 split
 ·exact⟨h.author,h.target,h.group,h.text,h.tos,h.to,h.wraps⟩
 split
 ·exact⟨h.author,h.target,h.group,h.text,h.tos,h.to,h.wraps⟩
 split
 ·refine⟨h.author,h.target,h.group,?_,h.tos,h.to,h.wraps⟩
  show((Dd k me time w).text++[120]).length≤_
  rw[List.length_append,List.length_singleton];omega
 split
 ·refine⟨?_,h.target,h.group,h.text,h.tos,h.to,h.wraps⟩
  show(CL _).length≤_
  omega
 split
 ·exact⟨h.author,h.target,h.group,h.text,h.tos,h.to,h.wraps⟩
 ·exact h
theorem ZeK{p:Prop}[Decidable p](k:Key)(D:Ac.Act):Ac.right (if p then Al else Bs k D)=true∨(if p then Al else Bs k D)=Al:=by
 by_cases h:p
 ·rw[if_pos h];exact .inr rfl
 ·rw[if_neg h];exact JZ k D
theorem ZeJ{p q:Prop}[Decidable p][Decidable q](k:Key)(D:Ac.Act):Ac.right (if p then(Al,(1:Int))else if q then(Al,4)else(Bs k D,0)).1=true∨(if p then(Al,(1:Int))else if q then(Al,4)else(Bs k D,0)).1=Al:=by
 by_cases h:p
 ·rw[if_pos h];exact .inr rfl
 rw[if_neg h];by_cases h2:q
 ·rw[if_pos h2];exact .inr rfl
 ·rw[if_neg h2];exact JZ k D
theorem Zc4(k:Key)(c:Chn)(time:Int)(txt:By):Ac.right (EI k c time txt).1=true∨(EI k c time txt).1=Al:=by
 unfold EI;by_cases h1:Gw k c=false
 ·rw[if_pos h1];exact .inr rfl
 rw[if_neg h1];by_cases h2:H3 k c=true
 ·rw[if_pos h2];exact .inr rfl
 rw[if_neg h2];exact ZeJ _ _
theorem Zfp(k:Key)(c:Chn)(ps:List Int)(time:Int):Ac.right (Gq k c ps time)=true∨Gq k c ps time=Al:=by
 unfold Gq;simp only
 by_cases h1:ps.any (fun p=>decide (p<1)||decide (2305843009213693950<p))=true
 ·rw[if_pos h1];exact .inr rfl
 rw[if_neg h1];by_cases h2:64<(AR c c.acts.length).length
 ·rw[if_pos h2];exact .inr rfl
 rw[if_neg h2];by_cases h3:Gw k c=false
 ·rw[if_pos h3];exact .inr rfl
 rw[if_neg h3];exact ZeK _ _
theorem Zd4(l:List Ac.Act)(me time:Int)(w:Wish):Ac.right (Dd l me time w)=true∨Dd l me time w=Al:=by
 unfold Dd;simp only
 by_cases h1:(Bc l (AE w.who)).acts=[]
 ·rw[if_pos h1]
  unfold Bi;exact JZ _ _
 rw[if_neg h1];by_cases h2:Ca w<0
 rotate_left
 ·rw[if_neg h2];exact JZ _ _
 rw[if_pos h2];unfold GF;by_cases h:(EI (AF w.who ((Bc l (AE w.who)).keys.length-1)) (Bc l (AE w.who)) time w.txt).2≠11
 ·rw[if_pos h];exact Zc4 _ _ _ _
 rw[if_neg h];by_cases h':(CY l (AR (Bc l (AE w.who)) (Bc l (AE w.who)).acts.length)).any (fun p=>p==1)=true
 ·rw[if_pos h'];exact JZ _ _
 ·rw[if_neg h'];exact Zfp _ _ _ _
theorem R7(n:Int):Em (IntKind.i64.wrap n):=by show -9223372036854775808≤_∧_≤_;rw[IntKind.wrap_i64];omega
theorem Zgm(l:List Ac.Act)(c:Chn)(w:Wish)(kd time:Int)(hw:Wz w)(hid:c.id.length≤16):Sz (Dy l c w (BU c kd time))∧(Dy l c w (BU c kd time)).to.length≤1∧(Dy l c w (BU c kd time)).wraps.length≤1:=by
 have htx:=hw.txt;have hac:=Of (AF w.whom 0).pub;have h0:(0:Nat)≤140737488355328:=by omega
 have hi:c.id.length≤140737488355328:=by omega
 have ht:w.txt.length≤140737488355328:=by omega
 have ha:(AE w.whom).length≤140737488355328:=by show(CL _).length≤_;omega
 unfold Dy;split
 ·exact⟨⟨hi,h0,h0,ht,(fun s hs=>nomatch hs),h0,h0⟩,Nat.zero_le _,Nat.zero_le _⟩
 split
 ·exact⟨⟨hi,h0,h0,ht,(fun s hs=>nomatch hs),h0,h0⟩,Nat.zero_le _,Nat.zero_le _⟩
 split
 ·exact⟨⟨hi,h0,h0,h0,(fun s hs=>nomatch hs),h0,h0⟩,Nat.zero_le _,Nat.zero_le _⟩
 split
 ·exact⟨⟨hi,h0,h0,h0,(fun s hs=>nomatch hs),h0,h0⟩,Nat.zero_le _,Nat.zero_le _⟩
 split
 ·exact⟨⟨hi,h0,h0,h0,(fun s hs=>nomatch hs),h0,h0⟩,Nat.zero_le _,Nat.zero_le _⟩
 split
 ·exact⟨⟨hi,h0,h0,ht,(fun s hs=>nomatch hs),h0,h0⟩,Nat.zero_le _,Nat.zero_le _⟩
 split
 ·refine⟨⟨hi,h0,by show(7:Nat)≤_;omega,h0,fun s hs=>?_,by show(1:Nat)≤_;omega,h0⟩,Nat.le_refl _,Nat.zero_le _⟩
  rw[List.mem_singleton.1 hs];exact ha
 split
 ·exact⟨⟨hi,h0,h0,h0,(fun s hs=>nomatch hs),h0,h0⟩,Nat.zero_le _,Nat.zero_le _⟩
 ·exact⟨⟨hi,ha,h0,h0,(fun s hs=>nomatch hs),h0,h0⟩,Nat.zero_le _,Nat.zero_le _⟩
theorem Zd2(ps:List Int)(l:List Ac.Act)(me time:Int)(w:Wish)(hl:l.length≤26)(hr:Bg l)(hw:Wz w):AC prog 25 [DX ps l,.it .i64 me,.it .i64 time,En w] [] (Am (B4 l me time w)) []:=by
 have k1:=Iv w.who hw.who;have k2:=OD ps l (AE w.who) (by omega) hr
 obtain⟨hok,hidc,_⟩:=NV hr (AE w.who);have hprev:=Zdu l (AE w.who);have haid:(AE w.who).length≤16:=Of _;have kb:=Rj w.who me time hw.who;have kkd:=Zev w hw.kind;have hcl:=hok.len;have hck:=hok.klen;have kps:=G5 w.spoil 12 hw.spoil (by decide)
 have hps:=Ke w.spoil (m:=12) (by decide)
 have hmz:=UT l me time w;have hmt:=US l me time w;have kid:=Qx (Dd l me time w) (Qp (Zd4 l me time w));have kps2:=fun n=>G5 (IntKind.i64.wrap (n+1)) 1000 (R7 _) (by decide)
 have kac2:=Iv (IntKind.i64.wrap (w.who+1)) (R7 _);obtain⟨q,hq⟩:∃q,B4 l me time w=q:=⟨_,rfl⟩
 rw[hq];unfold B4 at hq;simp only at hq
 obtain⟨md,hmd⟩:∃md,Dd l me time w=md:=⟨_,rfl⟩
 rw[hmd]at hq kid hmt;unfold Dd at hmd;simp only at hmd
 rw[←hidc]at haid;generalize hC:Bc l (AE w.who)=c at *;refine Ah [11,56,14,57,29,59,58,60,61,38,37,62] [] func25 ?_;rw[GW,GW,GW];refine MW (fun e S=>e 1=.it .i64 me∧e 7=.ptr 1 0∧e 8=.ptr 2 0∧e 10=.ptr 4 0 ∧ ∃T:Ae,S=.cells [AP ps,.sl .ro (l.map Ba)]::.cells [.it .i64 w.who,.it .i64 w.kind,.it .i64 w.on,.it .i64 w.whom,.st w.txt,.it .i64 w.spoil]::.cells JP::.cells (Q7 c)::.cells (JA md)::T) ?_ ?_
 ·intro Kt hKt
  by_cases h0:c.acts=[]
  ·rw[if_pos h0]at hmd
   rw[hmd]at kb;have q0:¬(c.acts.length:Int)>0:=by rw[h0];decide
   refine run ?_;refine cp k1 ?_;refine run ?_;refine cp k2 ?_;refine run ?_;refine cp kb ?_;refine Ab @q0 ?_;exact hKt _ _ ⟨Aa,Aa,Aa,Aa,[],rfl⟩
  ·rw[if_neg h0]at hmd
   have hcp:0<c.acts.length:=List.length_pos_iff.2 h0;have q0:(c.acts.length:Int)>0:=by omega
   have hk0:=hok.key h0;have hkl:0<c.keys.length:=List.length_pos_iff.2 hk0;have kmv:=UK c (by omega) hk0
   have kky:=L8 w.who (c.keys.length-1) hw.who (by omega)
   have hki:=MI w.who (c.keys.length-1);have kdr:=Ra c (Ca w) time (by omega)
   have hrc:Bg c.acts:=hok.acts;by_cases h1:Ca w<0
   ·rw[if_pos h1]at hmd
    have kse:=ZbK ps l c (AF w.who (c.keys.length-1)) w time (by omega) hr hw hki.1 (by omega) (by omega) hrc (by omega) (by omega)
    rw[hmd]at kse;have q1:Ca w<0:=h1;generalize AF w.who (c.keys.length-1)=kk at *;generalize Ca w=kd at *;generalize Bi w.who me time=bg at *;generalize hDr:BU c kd time=dr at *;have hdk:dr.kind=kd:=by rw[←hDr];rfl
    have q1':dr.kind<0:=by rw[hdk];exact q1
    refine run ?_;refine cp k1 ?_;refine run ?_;refine cp k2 ?_;refine run ?_;refine cp kb ?_;refine Ab @q0 ?_;refine cp kmv ?_;refine run ?_;refine cp kky ?_;refine run ?_;refine cp kkd ?_;refine run ?_;refine cp kdr ?_;refine Ab @q1' ?_;refine cp kse ?_;refine run ?_;exact hKt _ _ ⟨Aa,Aa,Aa,Aa,_,rfl⟩
   ·rw[if_neg h1]at hmd
    have kfi:=ZfQ ps l c w (BU c (Ca w) time) (by omega) hr hw (by omega) (by omega) h0 hk0 hrc
    obtain⟨hfs,hft,hfw⟩:=Zgm l c w (Ca w) time hw haid;have ksg:=Mg (AF w.who (c.keys.length-1)) (Dy l c w (BU c (Ca w) time)) hfs (by omega) (by omega) (by omega)
    rw[hmd]at ksg;generalize Dy l c w (BU c (Ca w) time)=fl at *;have q1:¬Ca w<0:=h1;generalize AF w.who (c.keys.length-1)=kk at *;generalize Ca w=kd at *;generalize Bi w.who me time=bg at *;generalize hDr:BU c kd time=dr at *;have hdk:dr.kind=kd:=by rw[←hDr];rfl
    have q1':¬dr.kind<0:=by rw[hdk];exact q1
    refine run ?_;refine cp k1 ?_;refine run ?_;refine cp k2 ?_;refine run ?_;refine cp kb ?_;refine Ab @q0 ?_;refine cp kmv ?_;refine run ?_;refine cp kky ?_;refine run ?_;refine cp kkd ?_;refine run ?_;refine cp kdr ?_;refine Ab @q1' ?_;refine cp kfi ?_;refine run ?_;refine cp ksg ?_;refine run ?_;exact hKt _ _ ⟨Aa,Aa,Aa,Aa,_,rfl⟩
 ·rintro e S ⟨s1,s7,s8,s10,T,rfl⟩
  rw[Db s8];have kps2:=kps2 md.sig.s;clear hmd hC k1 k2 kb kkd hok hmz hprev haid hidc;obtain⟨a1,a2,a3,a4,a5,a6,a7,a8,a9,a10,a11,⟨b1,b2,b3⟩,a12,a13,a14,a15,⟨g1,g2⟩⟩:=md;simp only at hq kps2 hmt
  generalize dg _=dd at *;generalize AE (IntKind.i64.wrap (w.who+1))=ac at *;generalize AL (IntKind.i64.wrap (g2+1)) 1000=pk at *;generalize AL w.spoil 12=sp at *;refine Ab (A4 @s1 @s7 @s8 @s10) ?_;refine cp kps ?_;by_cases c0:sp=0
  ·rw[if_pos c0]at hq
   subst hq c0;refine Ab (A4 @s1 @s7 @s8 @s10) ?_;refine cp kps2 ?_;refine Ab (A4 @s1 @s7 @s8 @s10) ?_;exact Au
  rw[if_neg c0]at hq;have q0:(sp==0)=false:=beq_eq_false_iff_ne.2 c0;by_cases c1:sp=1
  ·rw[if_pos c1]at hq
   subst hq c1;refine Ab (A4 @s1 @s7 @s8 @s10) ?_;exact Au
  rw[if_neg c1]at hq;have q1:(sp==1)=false:=beq_eq_false_iff_ne.2 c1;by_cases c2:sp=2
  ·rw[if_pos c2]at hq
   subst hq c2;refine Ab (A4 @s1 @s7 @s8 @s10) ?_;exact Au
  rw[if_neg c2]at hq;have q2:(sp==2)=false:=beq_eq_false_iff_ne.2 c2;by_cases c3:sp=3
  ·rw[if_pos c3]at hq
   subst hq c3;refine Ab (A4 @s1 @s7 @s8 @s10) ?_;refine cp kac2 ?_;refine Ab (A4 @s1 @s7 @s8 @s10) ?_;exact Au
  rw[if_neg c3]at hq;have q3:(sp==3)=false:=beq_eq_false_iff_ne.2 c3;by_cases c4:sp=4
  ·rw[if_pos c4]at hq
   subst hq c4;refine Ab (A4 @s1 @s7 @s8 @s10) ?_;refine cp kid ?_;refine Ab (A4 @s1 @s7 @s8 @s10) ?_;exact Au
  rw[if_neg c4]at hq;have q4:(sp==4)=false:=beq_eq_false_iff_ne.2 c4;subst hq;refine Ab (A9 @s1 @s7 @s8 @s10 @q0 @q1 @q2 @q3 @q4) ?_;exact Au
end Pe
end
end Go.Proofs.YtipfggegddlgdaaGreatDoor
