import Derived.Test.YtchpmmjmimaigaaGreatDoorKh27
set_option linter.unusedSectionVars false
set_option linter.unusedVariables false
set_option linter.unusedSimpArgs false
namespace Go.Proofs.YtchpmmjmimaigaaGreatDoor
section
namespace Pe
open Tryz
open Go Go.RowKit Co Sg Ac It Sl Tp Sr
set_option maxRecDepth 100000
set_option maxHeartbeats 4000000
abbrev Fb:=Fo It.Ballot
theorem Zhi(n a b:Nat)(P X Q:List Fb)(ha:P.length=a)(hb:a+X.length=b)(hl:n≤1000)(hT:Tot AE X)(hn:(P++X++Q).length=n):
  AC prog 366 [.wr 0 n none,.it .i64 (a:Int),.it .i64 (b:Int),.fn (.func 286) [] []]
   [.row (Ay BS (P++X++Q)) 303 9] (.tup []) [.row (Ay BS (P++Ci AE X++Q)) 303 9]:=by
 subst ha hb;exact Zhh n P X Q (by simpa only[List.length_append] using hn) hl hT
theorem Zc7(n:Nat)(M:List Fb)(hn:M.length=n)(hl:n<20)(hT:Tot AE M):AC prog 340 [.wr 0 n none,.it .i64 (n:Int),.fn (.func 286) [] []] [.row (Ay BS M) 303 9] (.tup []) [.row (Ay BS (Ci AE M)) 303 9]:=by
 have henc:=PC;have k:=Zhi n 0 n [] M [] rfl (by omega) (by omega) hT (by simpa using hn)
 simp only[List.nil_append,List.append_nil]at k;have h1:¬(20:Int)≤(n:Int):=by omega
 have h2:¬(20:Int)<(n:Int):=by omega
 refine Ai [] [] func340 ?_;refine run ?_;refine DR ?_
 refine Aa @h1 ?_;refine AT k ?_;refine run ?_;refine DR ?_
 refine Aa @h2 ?_;exact Ei (F8 henc _ _ _ _)
theorem Zdl(n:Nat)(M:List Fb)(hn:M.length=n)(hl:n<20)(hT:Tot AE M):AC prog 285 [.wr 0 n none,.fn (.func 286) [] []] [.row (Ay BS M) 303 9] (.tup []) [.row (Ay BS (Ci AE M)) 303 9]:=by
 have k:=Zc7 n M hn hl hT;refine Ai [] [] func285 ?_;refine run ?_;refine AT k ?_;refine run ?_;exact Ei (F8 PC _ _ _ _)
section
variable {P:Program} [Tab] {pf rf:List FuncId} {Kp lp wp:List Nat} {rest:List AO} {e e':Af} {S S':Ae} {K:Af→Ae→Prop}
theorem J4(h:EV P pf rf Kp lp wp rest e' S' K)(hk:keeps Kp S S':=by(intro k hk;simp only[List.mem_cons,List.not_mem_nil,or_false]at hk;rcases hk with rfl|rfl|rfl|rfl<;>rfl)):Ov P pf rf (fun e S=>EV P pf rf Kp lp wp rest e S K) Kp lp wp [] S e' S':=⟨hk,h⟩
end
theorem Zj7(it:It.Item)(id:By)(gen:Int):AC prog 194 [Ao it,.ptr 0 0,.ptr 1 0] [.cells [.st id],.cells [.it .i64 gen]] (.tup [C9 it.ballot,.it .i64 0,.bo (it.kind==2&&it.ballot.actor==id&&it.ballot.gen==gen)]) [.cells [.st id],.cells [.it .i64 gen]]:=by
 cases hk:(it.kind==2)with
 |false=>
  rw[Bool.false_and,Bool.false_and];refine AC.hw 26 func194 rfl (by decide) (Nat.le_of_ble_eq_true rfl) rfl ?_
  refine HW.seq (HW.aw [] [] (by decide) (by kernel_rfl) ?_)
  refine Al ?_
  refine run ?_;refine HW.seq (HW.aw [] [] (by decide) (by kernel_rfl) ?_)
  refine Al ?_
  refine run ?_;refine HW.seq (HW.spec [] [] [0,1,2,4] [10,12,16,17,22,23] [] (by decide) (by decide +kernel) (by decide +kernel) ?_)
  refine Al ?_
  repeat (refine g4 (by rfl) ?_;(first|refine BJ ?_|refine a4 ?_);refine runf4 @hk ?_;(first|refine J4 ?_|refine C7 ?_))
  repeat (refine L8 (by rfl) ?_)
  repeat (refine g4 (by rfl) ?_;(first|refine BJ ?_|refine a4 ?_);refine runf4 @hk ?_;(first|refine J4 ?_|refine C7 ?_))
  repeat (refine L8 (by rfl) ?_)
  repeat (refine g4 (by rfl) ?_;(first|refine BJ ?_|refine a4 ?_);refine runf4 @hk ?_;(first|refine J4 ?_|refine C7 ?_))
  refine EB ?_
  refine HW.aw [] [] (by decide) (by kernel_rfl) ?_
  refine Al ?_
  refine run ?_;exact BI rfl
 | true=>
  rw[Bool.true_and];cases hb:(it.ballot.actor==id)with
  |false=>
   rw[Bool.false_and];refine AC.hw 26 func194 rfl (by decide) (Nat.le_of_ble_eq_true rfl) rfl ?_
   refine HW.seq (HW.aw [] [] (by decide) (by kernel_rfl) ?_)
   refine Al ?_
   refine run ?_;refine HW.seq (HW.aw [] [] (by decide) (by kernel_rfl) ?_)
   refine Al ?_
   refine run ?_;refine HW.seq (HW.spec [] [] [0,1,2,4] [10,12,16,17,22,23] [] (by decide) (by decide +kernel) (by decide +kernel) ?_)
   refine Al ?_
   repeat (refine g4 (by rfl) ?_;(first|refine BJ ?_|refine a4 ?_);refine runf4 (an @hb @hk) ?_;(first|refine J4 ?_|refine C7 ?_))
   repeat (refine L8 (by rfl) ?_)
   repeat (refine g4 (by rfl) ?_;(first|refine BJ ?_|refine a4 ?_);refine runf4 (an @hb @hk) ?_;(first|refine J4 ?_|refine C7 ?_))
   repeat (refine L8 (by rfl) ?_)
   repeat (refine g4 (by rfl) ?_;(first|refine BJ ?_|refine a4 ?_);refine runf4 (an @hb @hk) ?_;(first|refine J4 ?_|refine C7 ?_))
   refine EB ?_
   refine HW.aw [] [] (by decide) (by kernel_rfl) ?_
   refine Al ?_
   refine run ?_;exact BI rfl
  |true=>
   rw[Bool.true_and];generalize hc:(it.ballot.gen==gen)=b at *;refine AC.hw 26 func194 rfl (by decide) (Nat.le_of_ble_eq_true rfl) rfl ?_
   refine HW.seq (HW.aw [] [] (by decide) (by kernel_rfl) ?_)
   refine Al ?_
   refine run ?_;refine HW.seq (HW.aw [] [] (by decide) (by kernel_rfl) ?_)
   refine Al ?_
   refine run ?_;refine HW.seq (HW.spec [] [] [0,1,2,4] [10,12,16,17,22,23] [] (by decide) (by decide +kernel) (by decide +kernel) ?_)
   refine Al ?_
   repeat (refine g4 (by rfl) ?_;(first|refine BJ ?_|refine a4 ?_);refine runf4 (A3 @hb @hk @hc) ?_;(first|refine J4 ?_|refine C7 ?_))
   refine EB ?_
   refine HW.aw [] [] (by decide) (by kernel_rfl) ?_
   refine Al ?_
   refine run ?_;exact BI rfl
def Gl(id:By)(gen:Int)(it:It.Item):Bool:=it.kind==2&&it.ballot.actor==id&&it.ballot.gen==gen&&It.right it
def Du(l:List It.Item)(id:By)(gen:Int):List Fb:=(l.filter (Gl id gen)).map fun it=>⟨0,It.digest it,it.ballot⟩
def CN(l:List It.Item)(id:By)(gen:Int):List It.Ballot:=(Ci AE (Du l id gen)).map (·.val)
theorem Zj3(l:List It.Ballot):AH 7 (l.map C9)=true:=BM 7 C9 (fun _=>rfl) _
theorem ZfJ(ps:List Int)(l:List It.Item)(id:By)(gen:Int)(hl:l.length≤1000)(hz:∀x∈l,Iz x)(hf:(Du l id gen).length<20)(hd:(l.map It.digest).Nodup):
  AC prog 193 [BC ps l,.fn (.func 194) [] [.ptr 0 0,.ptr 1 0]] [.cells [.st id],.cells [.it .i64 gen]] (.sl .ro ((CN l id gen).map C9)) [.cells [.st id],.cells [.it .i64 gen]]:=by
 have hsz:=GV l;have henc:=PC;have hT:Tot AE (Du l id gen):=Qt (by
  unfold Du;rw[List.map_map];exact hd.sublist ((List.filter_sublist).map _))
 have ksort:=Zdl _ (Du l id gen) rfl hf hT;have hlen:=IV (lt:=AE) (Du l id gen);have hstep:∀k (h:k<l.length),Du (l.take (k+1)) id gen=Du (l.take k) id gen++if Gl id gen l[k]=true then [⟨0,It.digest l[k],l[k].ballot⟩]else []:=fun k h=>by
  unfold Du;rw[List.take_succ_eq_append_getElem h,List.filter_append,List.map_append];congr 1
  simp only[List.filter_cons,List.filter_nil];split<;>rfl
 unfold CN;refine Ai [45,14] [] func193 ?_;refine run ?_;refine CG (fun m e S=>e 1=.fn (.func 194) [] [.ptr 0 0,.ptr 1 0]∧e 15=.sl .ro (l.map Ao)∧e 16=.it .i64 (l.length:Int) ∧ ∃(k:Nat) (out:List Fb) (T:Ae),e 17=.it .i64 (k:Int)∧e 5=.wr 3 out.length none∧S=.cells [.st id]::.cells [.it .i64 gen]::.cells [AB ps,.sl .ro (l.map Ao)]::.row (Ay BS out) 303 9::T∧out=Du (l.take k) id gen∧k≤l.length∧m=l.length-k) l.length _ _ (Aq.reserveRowT 2 5 (by rfl) 303 (sz:=9) (by decide))
  ⟨Ab,Ab,Ab,0,[],[],Ab,Ab,rfl,rfl,by omega,rfl⟩ ?_
 rintro m e S ⟨s1,s15,s16,k,out,T,s17,s5,rfl,hout,hk,rfl⟩
 have hT1:∀y:SObj,(T++[y])[T.length]? = some y:=fun y=>by simp
 have hT2:∀y z:SObj,(T++[y]).set T.length z=T++[z]:=fun y z=>by simp
 have hT3:∀y z:SObj,(T++[y]++[z])[T.length]? = some y:=fun y z=>by simp
 have hT4:∀y z:SObj,(T++[y]++[z])[T.length+1]? = some z:=fun y z=>by simp
 have hT5:∀y z u:SObj,(T++[y]++[z]).set (T.length+1) u=T++[y]++[u]:=fun y z u=>by simp
 by_cases hlt:k<l.length
 ·have hg:l[k]? = some l[k]:=List.getElem?_eq_getElem hlt
  have hlt':(k:Int)<(l.length:Int):=by omega
  have w1:=Cg (k:=k) (by omega)
  have hst:=hstep k hlt;rw[←hout]at hst;have izk:=hz l[k] (List.getElem_mem hlt);generalize l[k]=it at *;have k1:=Zj7 it id gen;have k2:=F9 it izk;have k3:=Gs it izk;have hF:=FK henc out;have hol:out.length≤1000:=by
   rw[hout];unfold Du;rw[List.length_map];have :=List.length_filter_le (Gl id gen) (l.take k);rw[List.length_take]at this;omega
  have hfit:Ct (out.length+1) 96=true:=by unfold Ct;simp only[Bool.and_eq_true,decide_eq_true_eq];omega
  refine Aa (F3 @s1 @s15 @s16 @s17 @s5 @hlt' @hg @hsz @hT1 @hT2) ?_;refine AT (k1.pre _ rfl rfl rfl rfl rfl) ?_;unfold Gl at hst;cases hb:(it.kind==2&&it.ballot.actor==id&&it.ballot.gen==gen)with
  |false=>
   rw[hb,Bool.false_and,if_neg (by decide),List.append_nil]at hst
   refine Aa (an @s1 (AA @s15 @s16 @s17 @s5 @hb @w1 @hT1 @hT2 @hT3 @hT4 @hT5)) ?_;exact As (l.length-(k+1)) (by omega) ⟨Ab,Ab,Ab,k+1,out,_,Ab,Ab,rfl,hst.symm,by omega,rfl⟩
  | true=>
   rw[hb,Bool.true_and]at hst;cases hr:It.right it with
   |false=>
    rw[hr,if_neg (by decide),List.append_nil]at hst
    rw[hr]at k2;refine Aa (an @s1 (AA @s15 @s16 @s17 @s5 @hb @w1 @hT1 @hT2 @hT3 @hT4 @hT5)) ?_;refine cp k2 ?_;refine Aa (an @s1 (AA @s15 @s16 @s17 @s5 @hb @w1 @hT1 @hT2 @hT3 @hT4 @hT5)) ?_;exact As (l.length-(k+1)) (by omega) ⟨Ab,Ab,Ab,k+1,out,_,Ab,Ab,rfl,hst.symm,by omega,rfl⟩
   | true=>
    rw[hr,if_pos rfl]at hst;rw[hr]at k2;generalize It.digest it=d at *;refine Aa (an @s1 (AA @s15 @s16 @s17 @s5 @hb @w1 @hT1 @hT2 @hT3 @hT4 @hT5)) ?_;refine cp k2 ?_;refine Aa (an @s1 (AA @s15 @s16 @s17 @s5 @hb @w1 @hT1 @hT2 @hT3 @hT4 @hT5)) ?_;refine cp k3 ?_;refine Aa (an @s1 (an @s15 (an @s16 (AA @s17 @s5 @hb @w1 @hT1 @hT2 @hT3 @hT4 @hT5 @hF @hfit)))) ?_;have hrow:Ay BS out++Ak [(.agg [.it .i64 0,.st d,.it .i64 it.ballot.server,.st it.ballot.actor,.it .i64 it.ballot.gen,.st it.ballot.claim,.it .i64 it.ballot.time,.it .i64 it.ballot.sig.e,.it .i64 it.ballot.sig.s])]=Ay BS (out++[⟨0,d,it.ballot⟩]):=by
     rw[MP,OL];rfl
    rw[hrow];exact As (l.length-(k+1)) (by omega) ⟨Ab,Ab,Ab,k+1,out++[⟨0,d,it.ballot⟩],_,Ab,by rw[List.length_append];exact Ab,rfl,hst.symm,by omega,rfl⟩
 ·obtain rfl:k=l.length:=by omega
  rw[List.take_length]at hout;subst hout;have hlt':¬(l.length:Int)<(l.length:Int):=by omega
  refine Aa (A6 @s1 @s15 @s16 @s17 @s5 @hlt') ?_;refine Kn 3 ksort ?_ (FJ henc _ _ _ _) (FJ henc _ _ _ _)
  refine Aa (A5 @s1 @s15 @s16 @s17 @s5) ?_;generalize Ci AE (Du l id gen)=M at *;have hML:M.length<20:=by omega
  rw[←hlen];clear ksort;refine CG (fun m e S=>e 47=.wr 3 M.length none∧e 48=.it .i64 (M.length:Int) ∧ ∃(k:Nat) (T:Ae),e 49=.it .i64 (k:Int)∧e 11=.sl (.own 4) ((M.take k).map fun p=>C9 p.val)∧S=.cells [.st id]::.cells [.it .i64 gen]::.cells [AB ps,.sl .ro (l.map Ao)]::.row (Ay BS M) 303 9::.buf (M.take k).length 57 7::T∧k≤M.length∧m=M.length-k) M.length (Aw (Aw (Aw (Aw (fun _=>.junk) 47 (.wr 3 M.length none)) 48 (.it .i64 (M.length:Int))) 49 (.it .i64 0)) 11 (.sl (.own 4) [])) [.cells [.st id],.cells [.it .i64 gen],.cells [AB ps,.sl .ro (l.map Ao)],.row (Ay BS M) 303 9,.buf 0 57 7] ?_
   ⟨Ab,Ab,0,[],Ab,Ab,rfl,by omega,rfl⟩ ?_
  ·refine Aq.sub 2 [0,1,2,3,T.length+4] (((((HM.nil _ _).cons 47 (.wr 3 M.length none) (.wr 3 M.length none) rfl rfl Ab).cons 48 (.it .i64 (M.length:Int)) _ rfl rfl Ab).cons 49 (.it .i64 0) _ rfl rfl Ab).cons 11 (.sl (.own 4) []) (.sl (.own (T.length+4)) []) rfl rfl Ab) ⟨?_,rfl,fun i o hi=>?_⟩ rfl
   ·simp
   ·match i,hi with
    |0,hi=>cases hi;exact⟨rfl,rfl⟩
    |1,hi=>cases hi;exact⟨rfl,rfl⟩
    |2,hi=>cases hi;exact⟨rfl,rfl⟩
    |3,hi=>cases hi;exact⟨FJ henc M _ _ 5,by rw[F6 (FJ henc M _ _ 0)];rfl⟩
    |4,hi=>
     cases hi
     refine⟨rfl,?_⟩
     show(T++[SObj.buf 0 57 7])[T.length]? = _
     simp
     rfl
  clear s1 s15 s16 s17 s5 hT1 hT2 hT3 hT4 hT5;rintro m e S ⟨s47,s48,k,T,s49,s11,rfl,hk,rfl⟩
  have hT1:∀y:SObj,(T++[y])[T.length]? = some y:=fun y=>by simp
  have hT2:∀y z:SObj,(T++[y]).set T.length z=T++[z]:=fun y z=>by simp
  have hF:=FK henc M;have hkl:(M.take k).length≤40:=by rw[List.length_take];omega
  by_cases hlt:k<M.length
  ·have hg:M[k]? = some M[k]:=List.getElem?_eq_getElem hlt
   have hlt':(k:Int)<(M.length:Int):=by omega
   have h0:(0:Int)≤(k:Int):=by omega
   have w1:=Cg (k:=k) (by omega)
   have ha:=H6 henc M k _ hg;have hb:k*9+9≤M.length*9:=by omega
   have htk:M.take (k+1)=M.take k++[M[k]]:=List.take_succ_eq_append_getElem hlt;have hsa:AH 7 ((M.take k).map fun p=>C9 p.val)=true:=BM 7 (fun p:Fb=>C9 p.val) (fun _=>rfl) _
   generalize M[k]=x at *;change((Ay BS M).drop (k*9)).take 9=BW BS x at ha;have hce:AV.agg (BW BS x)=.agg [.it .i64 x.rank,.st x.dig,.it .i64 x.val.server,.st x.val.actor,.it .i64 x.val.gen,.st x.val.claim,.it .i64 x.val.time,.it .i64 x.val.sig.e,.it .i64 x.val.sig.s]:=rfl;have hap:(if k*9=0∧9=M.length*9 then some (AV.agg (Ay BS M))else some (.agg (BW BS x)))=some (.agg [.it .i64 x.rank,.st x.dig,.it .i64 x.val.server,.st x.val.actor,.it .i64 x.val.gen,.st x.val.claim,.it .i64 x.val.time,.it .i64 x.val.sig.e,.it .i64 x.val.sig.s]):=by
    rw[←hce];split
    ·rename_i hc
     rw[←ha,hc.1,List.drop_zero,List.take_of_length_le (by omega)]
    ·rfl
   clear hce;refine Aa (an @s47 (an @s48 (an @s49 (an @s11 (AA @hlt' @h0 @hg @ha @hF @hb @hap @hT1 @hT2 @hsa @w1))))) ?_;exact As (M.length-(k+1)) (by omega) ⟨Ab,Ab,k+1,_,Ab,by rw[htk,List.map_append];exact Ab,by rw[htk,List.length_append];rfl,by omega,rfl⟩
  ·obtain rfl:k=M.length:=by omega
   have hlt':¬(M.length:Int)<(M.length:Int):=by omega
   rw[List.take_length]at s11;refine Aa (A5 @s47 @s48 @s49 @s11 @hlt') ?_;exact BI rfl (hv:=by
    show AV.sl .ro (M.map fun p=>C9 p.val)=AV.sl .ro ((M.map (·.val)).map C9)
    rw[List.map_map];rfl)
theorem Zj6(ps:List Int)(l:List It.Item)(id:By)(gen:Int)(hl:l.length≤1000)(hz:∀x∈l,Iz x)(hf:(Du l id gen).length<20)(hd:(l.map It.digest).Nodup):
  AC prog 120 [BC ps l,.st id,.it .i64 gen] [] (.sl .ro ((CN l id gen).map C9)) []:=by
 have k:=ZfJ ps l id gen hl hz hf hd;have k2:=k.frame (T:=[.cells [AB ps,.sl .ro (l.map Ao)],.cells [.st id],.cells [.it .i64 gen]]) [1,2] (Qz 1 2 (by decide) rfl rfl rfl rfl) rfl rfl (fun i o hi=>by
  match i,hi with
  |0,hi=>cases hi;rfl
  |1,hi=>cases hi;rfl)
 change AC _ _ [BC ps l,.fn (.func 194) [] [.ptr 1 0,.ptr 2 0]] [.cells [AB ps,.sl .ro (l.map Ao)],.cells [.st id],.cells [.it .i64 gen]] (.sl .ro ((CN l id gen).map C9)) [.cells [AB ps,.sl .ro (l.map Ao)],.cells [.st id],.cells [.it .i64 gen]]at k2;refine Ai [] [] func120 ?_;refine run ?_;refine AT k2 ?_;refine run ?_;exact AQ
end Pe
end
end Go.Proofs.YtchpmmjmimaigaaGreatDoor
