import Derived.Test.YtchpmmjmimaigaaGreatDoorKh25
set_option linter.unusedSectionVars false
set_option linter.unusedVariables false
set_option linter.unusedSimpArgs false
namespace Go.Proofs.YtchpmmjmimaigaaGreatDoor
section
namespace Pe
open Tryz
open Go Go.RowKit Co Sg Ac It Sl Tp Sr
set_option maxRecDepth 100000
structure Fo(T:Type) where
 rank:Int
 dig:By
 val:T
def AE{T:Type}(p q:Fo T):Bool:=decide (Gu p.rank q.rank p.dig q.dig<0)
theorem Zji(r r':Int)(d d':By):Gu r r' d d'<0↔r<r'∨(r=r'∧Op.bytesLess d d'=true):=by
 have hs:Jk d d'<0↔Op.bytesLess d d'=true:=by
  unfold Jk;cases Op.bytesLess d d' with
  |true=>simp
  |false=>
   rw[if_neg (by decide)]
   split<;>simp
 unfold Gu OU Ki;by_cases h1:r<r'
 ·rw[if_pos h1];simp[h1]
 ·rw[if_neg h1]
  by_cases h2:r>r'
  ·rw[if_pos h2];simp;omega
  ·rw[if_neg h2]
   have e:r=r':=by omega
   rw[show((0:Int) !=0)=false from rfl,if_neg (by decide),hs]
   simp[e]
theorem J1{T:Type}(p q:Fo T):AE p q=true↔p.rank<q.rank∨(p.rank=q.rank∧Op.bytesLess p.dig q.dig=true):=by
 unfold AE;rw[decide_eq_true_eq,Zji]
theorem Lv{T:Type}:Strict (AE (T:=T)) where
 irr a:=by
  cases e:AE a a with
  |false=>rfl
  |true=>
   rcases(J1 a a).1 e with h|⟨_,h⟩
   ·omega
   ·rw[ZS]at h;cases h
 trans {a b c} h1 h2:=by
  rw[J1]at *;rcases h1 with h1|⟨h1,h1'⟩<;>rcases h2 with h2|⟨h2,h2'⟩
  ·exact .inl (by omega)
  ·exact .inl (by omega)
  ·exact .inl (by omega)
  ·exact .inr ⟨by omega,TF h1' h2'⟩
theorem Zkc{T:Type}(a b:Fo T)(h:AE a b=true):AE b a=false:=by
 cases e:AE b a with
 |false=>rfl
 |true=>have :=Lv.trans h e;rw[Lv.irr]at this;cases this
theorem Zgh{T:Type}(a b c:Fo T)(h1:AE b a=false)(h2:AE c b=false):AE c a=false:=by
 cases e:AE c a with
 |false=>rfl
 | true=>
  have n1:=fun h=>Bool.false_ne_true (h1.symm.trans ((J1 b a).2 h))
  have n2:=fun h=>Bool.false_ne_true (h2.symm.trans ((J1 c b).2 h))
  rcases(J1 c a).1 e with h|⟨h,h'⟩
  ·exfalso
   by_cases hb:c.rank<b.rank
   ·exact n2 (.inl hb)
   ·exact n1 (.inl (by omega))
  ·exfalso
   by_cases hb:c.rank<b.rank
   ·exact n2 (.inl hb)
   by_cases hb':b.rank<a.rank
   ·exact n1 (.inl hb')
   have e1:c.rank=b.rank:=by omega
   have e2:b.rank=a.rank:=by omega
   cases hd:Op.bytesLess c.dig b.dig with
   |true=>exact n2 (.inr ⟨e1,hd⟩)
   |false=>
    rcases TE _ _ hd with e3|e3
    ·rw[e3]at h';exact n1 (.inr ⟨e2,h'⟩)
    ·exact n1 (.inr ⟨e2,TF e3 h'⟩)
theorem Qt{T:Type}{l:List (Fo T)}(h:(l.map (·.dig)).Nodup):Tot AE l:=by
 refine⟨List.Pairwise.imp (fun {a b} hab e=>hab (by rw[e])) (List.pairwise_map.1 h),fun x hx y hy hl=>?_⟩
 by_cases e:x.dig=y.dig
 ·exact .inl (LS h hx hy e)
 ·refine .inr ((J1 y x).2 ?_)
  have n1:=fun h=>Bool.false_ne_true (hl.symm.trans ((J1 x y).2 h))
  by_cases h1:y.rank<x.rank
  ·exact .inl h1
  ·by_cases h2:x.rank<y.rank
   ·exact absurd (.inl h2) n1
   ·refine .inr ⟨by omega,?_⟩
    cases hd:Op.bytesLess x.dig y.dig with
    |true=>exact absurd (.inr ⟨by omega,hd⟩) n1
    |false=>
     rcases TE _ _ hd with e'|e'
     ·exact absurd e' e
     ·exact e'
theorem Lx{T:Type}{l m:List (Fo T)}(hp:m.Perm l)(hu:Up AE m):Ci AE l=m:=Zdb Lv hp hu Zgh Zkc
section
variable {T:Type} (enc:T→List AV)
def BW(p:Fo T):List AV:=.it .i64 p.rank::.st p.dig::enc p.val
def Ay(M:List (Fo T)):List AV:=Ak (M.map fun p=>.agg (BW enc p))
structure Enc(n:Nat):Prop where
 len:∀v,(enc v).length=n
 ok:∀v,(enc v).all (AV.o1 0)=true
variable {enc} {n:Nat}
theorem Enc.cel(h:Enc enc n)(p:Fo T):(BW enc p).length=n+2:=by
 unfold BW;rw[List.length_cons,List.length_cons,h.len]
theorem FK(h:Enc enc n)(M:List (Fo T)):(Ay enc M).length=M.length*(n+2):=SI (fun p=>AV.agg (BW enc p)) (n+2) (fun a=>h.cel a) M
theorem MP(M L:List (Fo T)):Ay enc (M++L)=Ay enc M++Ay enc L:=by
 unfold Ay;rw[List.map_append,J9]
theorem OL(p:Fo T):Ay enc [p]=BW enc p:=by simp[Ay,Ak,AV.cells]
theorem H6(h:Enc enc n)(M:List (Fo T))(k:Nat)(x:Fo T)(hx:M[k]? = some x):((Ay enc M).drop (k*(n+2))).take (n+2)=BW enc x:=by
 have hk:=(List.getElem?_eq_some_iff.1 hx).1
 have hsp:M=M.take k++([x]++M.drop (k+1)):=by
  rw[List.singleton_append,←(List.getElem?_eq_some_iff.1 hx).2,←List.drop_eq_getElem_cons hk,List.take_append_drop]
 have h1:=FK h (M.take k);rw[List.length_take,Nat.min_eq_left (Nat.le_of_lt hk)]at h1;have h2:=h.cel x;rw[hsp,MP,MP,OL,List.drop_append_of_le_length (by omega),List.drop_of_length_le (by omega),List.nil_append,List.take_append_of_le_length (by omega),List.take_of_length_le (by omega)]
theorem LK(h:Enc enc n)(M:List (Fo T))(j:Nat)(x:Fo T)(hj:j<M.length):Bc (Ay enc M) (j*(n+2)) (BW enc x)=Ay enc (M.set j x):=
 ZaP (fun p=>AV.agg (BW enc p)) (n+2) (fun a=>h.cel a) x M j hj
theorem Enc.celok(h:Enc enc n)(p:Fo T):(BW enc p).all (AV.o1 0)=true:=by
 unfold BW;rw[List.all_cons,List.all_cons,h.ok];rfl
theorem Zew(h:Enc enc n)(M:List (Fo T)):(Ay enc M).all (AV.o1 0)=true:=Pt (fun p=>AV.agg (BW enc p)) (fun a=>h.celok a) M
theorem FJ(h:Enc enc n)(M:List (Fo T))(ty:TypeId)(sz k:Nat):(SObj.row (Ay enc M) ty sz).ok k=true:=
 List.all_eq_true.2 fun x hx=>Ew (List.all_eq_true.1 (Zew h M) x hx) (Nat.zero_le k)
theorem F8(h:Enc enc n)(M:List (Fo T))(ty:TypeId)(sz k:Nat):[SObj.row (Ay enc M) ty sz].all (SObj.ok k)=true:=by
 rw[List.all_cons,FJ h M];rfl
end
end Pe
end
section
namespace Pe
open Tryz
open Go Go.RowKit Co Sg Ac It Sl Tp Sr
set_option maxRecDepth 100000
set_option maxHeartbeats 4000000
def BU(a:Ac.Act):List AV:=[.st a.author,.it .i64 a.seq,.st a.prev,.it .i64 a.kind,.it .i64 a.time,.st a.object,.st a.target,.it .i64 a.scope,.st a.group,B8 a.to,.st a.text,.st a.body.nonce,.st a.body.data,.st a.body.tag,.it .i64 a.epoch,.sl .ro (a.wraps.map Bo),.it .i64 a.n,.it .i64 a.m,.it .i64 a.sig.e,.it .i64 a.sig.s]
theorem PD:Enc BU 20:=⟨fun _=>rfl,fun _=>rfl⟩
theorem ZgF(p q:Fo Ac.Act):AC prog 164 [.agg (BW BU p),.agg (BW BU q)] [] (.it .i64 (Gu p.rank q.rank p.dig q.dig)) []:=by
 obtain⟨r,d,a⟩:=p;obtain⟨r',d',b⟩:=q;have k1:=To r r';have k2:=Tn d d';have k3:=RI (Ki r r') (Jk d d');show AC _ _ [.agg [.it .i64 r,.st d,.st a.author,.it .i64 a.seq,.st a.prev,.it .i64 a.kind,.it .i64 a.time,.st a.object,.st a.target,.it .i64 a.scope,.st a.group,B8 a.to,.st a.text,.st a.body.nonce,.st a.body.data,.st a.body.tag,.it .i64 a.epoch,.sl .ro (a.wraps.map Bo),.it .i64 a.n,.it .i64 a.m,.it .i64 a.sig.e,.it .i64 a.sig.s],.agg [.it .i64 r',.st d',.st b.author,.it .i64 b.seq,.st b.prev,.it .i64 b.kind,.it .i64 b.time,.st b.object,.st b.target,.it .i64 b.scope,.st b.group,B8 b.to,.st b.text,.st b.body.nonce,.st b.body.data,.st b.body.tag,.it .i64 b.epoch,.sl .ro (b.wraps.map Bo),.it .i64 b.n,.it .i64 b.m,.it .i64 b.sig.e,.it .i64 b.sig.s]] _ _ _
 refine Ai [166,167,165] [] func164 ?_;refine run ?_;refine cp k1 ?_;refine run ?_;refine cp k2 ?_;refine run ?_;refine cp k3 ?_;refine run ?_;exact Ad
theorem Zhj(n:Nat)(P X Q:List (Fo Ac.Act))(hn:P.length+X.length+Q.length=n)(hl:n≤1000)(hT:Tot AE X):
  AC prog 335 [.wr 0 n none,.it .i64 (P.length:Int),.it .i64 ((P.length+X.length:Nat):Int),.fn (.func 164) [] []]
   [.row (Ay BU (P++X++Q)) 224 22] (.tup []) [.row (Ay BU (P++Ci AE X++Q)) 224 22]:=by
 have henc:=PD;refine AC.enter2 [1000022] [] func335 rfl (by decide) (by decide) (Nat.le_of_ble_eq_true rfl) (by kernel_rfl) ?_
 refine Al ?_
 have w0:IntKind.i64.wrap ((P.length:Int)+1)=((P.length+1:Nat):Int):=by rw[wrap64 (by omega) (by omega)];omega
 cases X with
 |nil=>
  have hx:¬((P.length+1:Nat):Int)<((P.length+([]:List (Fo Ac.Act)).length:Nat):Int):=by simp only[List.length_nil];omega
  have hs:Ci AE ([]:List (Fo Ac.Act))=[]:=Lx (.refl _) .nil;rw[hs];refine Aa @w0 ?_;refine DR ?_
  refine Aa @hx ?_;exact Ei (F8 henc _ _ _ _)
 |cons x X=>
 generalize hb:P.length+(x::X).length=b at *;rw[List.length_cons]at hb;refine Aa @w0 ?_;refine Bn (fun m e S=>e 0=.wr 0 n none∧e 1=.it .i64 (P.length:Int)∧e 2=.it .i64 (b:Int)∧e 3=.fn (.func 164) [] [] ∧ ∃(U W:List (Fo Ac.Act)),e 8=.it .i64 ((P.length+U.length:Nat):Int)∧S=[.row (Ay BU (P++(U++W)++Q)) 224 22]∧(U++W).Perm (x::X)∧Up AE U∧m=W.length) X.length ⟨Ab,Ab,Ab,Ab,[x],X,Ab,rfl,.refl _,by simp,rfl⟩ ?_
 rintro m e S ⟨s0,s1,s2,s3,U,W,s8,rfl,hpm,hU,rfl⟩
 have hlen:=hpm.length_eq;rw[List.length_append,List.length_cons]at hlen;cases W with
 |nil=>
  have hlt':¬((P.length+U.length:Nat):Int)<(b:Int):=by simp only[List.length_nil]at hlen;omega
  rw[List.append_nil]at hpm ⊢;rw[Lx hpm hU];refine Aa (A6 @s0 @s1 @s2 @s3 @s8 @hlt') ?_;exact Ei (F8 henc _ _ _ _)
 |cons v W=>
 rw[List.length_cons]at hlen;have hlt':((P.length+U.length:Nat):Int)<(b:Int):=by omega
 have w1:IntKind.i64.wrap (((P.length+U.length:Nat):Int)+1)=((P.length+(U.length+1):Nat):Int):=by rw[wrap64 (by omega) (by omega)];omega
 refine Aa (A6 @s0 @s1 @s2 @s3 @s8 @hlt') ?_;refine Bn (fun m e S=>e 0=.wr 0 n none∧e 1=.it .i64 (P.length:Int)∧e 2=.it .i64 (b:Int)∧e 3=.fn (.func 164) [] []∧e 8=.it .i64 ((P.length+U.length:Nat):Int) ∧ ∃(V Z:List (Fo Ac.Act)),e 9=.it .i64 ((P.length+V.length:Nat):Int)∧S=[.row (Ay BU (P++V++v::(Z++(W++Q)))) 224 22]∧V++Z=U∧(∀y∈Z,AE v y=true)∧m=V.length) U.length ⟨Ab,Ab,Ab,Ab,Ab,U,[],Ab,by simp,by simp,by simp,rfl⟩ ?_
 clear s0 s1 s2 s3 s8;rintro m e S ⟨s0,s1,s2,s3,s8,V,Z,s9,rfl,hVZ,hZ,rfl⟩
 have hnext:∀(h:∀V' z,V=V'++[z]→AE z v=true),(V++v::Z++W).Perm (x::X)∧Up AE (V++v::Z)∧P.length+(U.length+1)=P.length+(V++v::Z).length∧P++V++v::(Z++(W++Q))=P++(V++v::Z++W)++Q:=fun h=>by
  refine⟨?_,Qq Lv (by rw[hVZ];exact hU) h hZ,?_,by simp⟩
  ·refine List.Perm.trans ?_ hpm
   rw[←hVZ];have h1:(V++v::Z).Perm (v::(V++Z)):=List.perm_middle;refine(h1.append_right W).trans ?_
   exact List.perm_middle.symm
  ·rw[←hVZ,List.length_append,List.length_append,List.length_cons]
   omega
 rcases List.eq_nil_or_concat V with hV|⟨V',z,hV⟩
 ·have hn:¬((P.length+V.length:Nat):Int)>(P.length:Int):=by rw[hV,List.length_nil];omega
  obtain⟨g1,g2,g3,g4⟩:=hnext fun V' z h=>by rw[hV]at h;simp at h
  rw[g4];obtain⟨q,hq⟩:∃q,q=P.length+(V++v::Z).length:=⟨_,rfl⟩
  rw[g3,←hq]at w1;refine Aa (A8 @s0 @s1 @s2 @s3 @s8 @s9 @hn @w1) ?_;clear hV g3 g4;exact As W.length (by simp) ⟨Ab,Ab,Ab,Ab,V++v::Z,W,by rw[←hq];clear hq;exact Ab,rfl,g1,g2,rfl⟩
 ·rw [List.concat_eq_append]at hV
  have hVl:V.length=V'.length+1:=by rw[hV];simp
  have hUl:V.length+Z.length=U.length:=by rw[←hVZ,List.length_append]
  obtain⟨j,hj⟩:∃j,j=P.length+V'.length:=⟨_,rfl⟩
  rw[show P.length+V.length=j+1 by omega]at s9
  have hn:((j+1:Nat):Int)>(P.length:Int):=by omega
  have wj:IntKind.i64.wrap (((j+1:Nat):Int)-1)=(j:Int):=by rw[wrap64 (by omega) (by omega)];omega
  have hM:P++V++v::(Z++(W++Q))=(P++V')++z::v::(Z++(W++Q)):=by rw[hV];simp
  have hjl:(P++V').length=j:=by rw[List.length_append,hj]
  have hYl:((P++V')++z::v::(Z++(W++Q))).length=n:=by
   rw[←hVZ,List.length_append]at hlen;simp only[List.length_append,List.length_cons]at *;omega
  have g0:((P++V')++z::v::(Z++(W++Q)))[j]? = some z:=by rw[←hjl];exact SA _ _ _
  have g1:((P++V')++z::v::(Z++(W++Q)))[j+1]? = some v:=by
   rw[←hjl,List.getElem?_append_right (by omega),show(P++V').length+1-(P++V').length=1 by omega]
   rfl
  have hsw:(((P++V')++z::v::(Z++(W++Q))).set (j+1) z).set j v=P++V'++v::((z::Z)++(W++Q)):=by
   have :=Qy (P++V') [] (Z++(W++Q)) z v;rw[hjl]at this;show _=(P++V')++v::([]++z::(Z++(W++Q)))
   rw[←this];unfold MF;rw[List.set_comm _ _ (by omega)]
   rfl
  rw[hM];generalize hY:(P++V')++z::v::(Z++(W++Q))=Y at *;have a1:=H6 henc Y (j+1) _ g1;have a0:=H6 henc Y j _ g0;have hF:=FK henc Y;rw[hYl]at hF;change((Ay BU Y).drop ((j+1)*22)).take 22=_ at a1;change((Ay BU Y).drop (j*22)).take 22=_ at a0;change _=n*22 at hF;have hj1:j+1<n:=by have :=(List.getElem?_eq_some_iff.1 g1).1;omega
  have b1:(j+1)*22+22≤n*22:=by omega
  have b0:j*22+22≤n*22:=by omega
  have x1:((j+1:Nat):Int)<(n:Int):=by omega
  have x0:(j:Int)<(n:Int):=by omega
  have z1:(0:Int)≤((j+1:Nat):Int):=by omega
  have z0:(0:Int)≤(j:Int):=by omega
  have q1:((j+1)*22=0∧22=n*22)=False:=eq_false (by omega)
  have q0:(j*22=0∧22=n*22)=False:=eq_false (by omega)
  have kc:=ZgF v z;have lv:=henc.cel v;have lz:=henc.cel z;change _=22 at lv;change _=22 at lz;refine Aa (an @s0 (an @s1 (an @s2 (an @s3 (an @s8 (an @s9 (an @hn (an @wj (an @x1 (an @x0 (AA @z1 @z0 @hF @a1 @a0 @b1 @b0 @q1 @q0 @lv @lz))))))))))) ?_;refine cp kc ?_;cases hlf:AE v z with
  | false=>
   have hc:¬Gu v.rank z.rank v.dig z.dig<0:=of_decide_eq_false hlf;have hvx:v∈x::X:=hpm.mem_iff.1 (by simp)
   have hzx:z∈x::X:=hpm.mem_iff.1 (by rw[←hVZ,hV];simp)
   have hzv:AE z v=true:=by
    rcases hT.tri v hvx z hzx hlf with e|e
    ·exfalso
     have hnd:=hpm.nodup_iff.2 hT.nodup;rw[←hVZ,hV,e]at hnd;simp[List.nodup_append]at hnd
    ·exact e
   obtain⟨g1,g2,g3,g4⟩:=hnext fun V2 z2 h=>by
    rw[hV]at h;have :=(List.append_inj' h rfl).2;cases this
    exact hzv
   rw[hM]at g4;rw[g4];obtain⟨q,hq⟩:∃q,q=P.length+(V++v::Z).length:=⟨_,rfl⟩
   rw[g3,←hq]at w1;clear g3 g4;refine Aa (A8 @s0 @s1 @s2 @s3 @s8 @s9 @hc @w1) ?_;exact As W.length (by simp) ⟨Ab,Ab,Ab,Ab,V++v::Z,W,by rw[←hq];clear hq;exact Ab,rfl,g1,g2,rfl⟩
  | true=>
   have hc:Gu v.rank z.rank v.dig z.dig<0:=of_decide_eq_true hlf;have e1:Bc (Ay BU Y) ((j+1)*22) (BW BU z)=Ay BU (Y.set (j+1) z):=LK henc Y (j+1) z (by omega)
   have e2:Bc (Ay BU (Y.set (j+1) z)) (j*22) (BW BU v)=Ay BU ((Y.set (j+1) z).set j v):=LK henc _ j v (by rw[List.length_set];omega)
   have hF1:(Ay BU (Y.set (j+1) z)).length=n*22:=by
    have :=FK henc (Y.set (j+1) z);rwa[List.length_set,hYl]at this
   refine Aa (an @s0 (an @s1 (an @s2 (an @s3 (an @s8 (an @s9 (an @hc (an @wj (an @x1 (an @x0 (an @z1 (an @z0 (an @hF (AA @a1 @a0 @b1 @b0 @q1 @q0 @e1 @e2 @hF1 @lv @lz)))))))))))))) ?_;rw[hsw];exact As V'.length (by omega) ⟨Ab,Ab,Ab,Ab,Ab,V',z::Z,by rw[←hj];exact Ab,rfl,by rw[←hVZ,hV];simp,fun y hy=>(List.mem_cons.1 hy).elim (fun e=>by rw[e];exact hlf) (hZ y),rfl⟩
end Pe
end
section
namespace Pe
open Tryz
open Go Go.RowKit Co Sg Ac It Sl Tp Sr
set_option maxRecDepth 100000
set_option maxHeartbeats 4000000
abbrev Fa:=Fo Ac.Act
theorem Zhk(n a b:Nat)(P X Q:List Fa)(ha:P.length=a)(hb:a+X.length=b)(hl:n≤1000)(hT:Tot AE X)(hn:(P++X++Q).length=n):
  AC prog 335 [.wr 0 n none,.it .i64 (a:Int),.it .i64 (b:Int),.fn (.func 164) [] []]
   [.row (Ay BU (P++X++Q)) 224 22] (.tup []) [.row (Ay BU (P++Ci AE X++Q)) 224 22]:=by
 subst ha hb;exact Zhj n P X Q (by simpa only[List.length_append] using hn) hl hT
theorem Zc4(n:Nat)(M:List Fa)(hn:M.length=n)(hl:n<20)(hT:Tot AE M):AC prog 270 [.wr 0 n none,.it .i64 (n:Int),.fn (.func 164) [] []] [.row (Ay BU M) 224 22] (.tup []) [.row (Ay BU (Ci AE M)) 224 22]:=by
 have henc:=PD;have k:=Zhk n 0 n [] M [] rfl (by omega) (by omega) hT (by simpa using hn)
 simp only[List.nil_append,List.append_nil]at k;have h1:¬(20:Int)≤(n:Int):=by omega
 have h2:¬(20:Int)<(n:Int):=by omega
 refine Ai [] [] func270 ?_;refine run ?_;refine DR ?_
 refine Aa @h1 ?_;refine AT k ?_;refine run ?_;refine DR ?_
 refine Aa @h2 ?_;exact Ei (F8 henc _ _ _ _)
theorem Zde(n:Nat)(M:List Fa)(hn:M.length=n)(hl:n<20)(hT:Tot AE M):AC prog 163 [.wr 0 n none,.fn (.func 164) [] []] [.row (Ay BU M) 224 22] (.tup []) [.row (Ay BU (Ci AE M)) 224 22]:=by
 have k:=Zc4 n M hn hl hT;refine Ai [] [] func163 ?_;refine run ?_;refine AT k ?_;refine run ?_;exact Ei (F8 PD _ _ _ _)
end Pe
end
section
namespace Pe
open Tryz
open Go Go.RowKit
variable [Tab]
def HM(κ:List Nat)(E e:Af):Prop:=∀t,E t=.junk∨((E t).ok κ.length=true∧e t=(E t).ren (Az κ))
theorem HM.nil(κ:List Nat)(e:Af):HM κ (fun _=>.junk) e:=fun _=>.inl rfl
theorem HM.cons{κ:List Nat}{E e:Af}(h:HM κ E e)(t:Nat)(v u:AV)(hk:v.ok κ.length=true)(hu:v.ren (Az κ)=u)(hv:e t=u):HM κ (Aw E t v) e:=fun x=>by
 unfold Aw;by_cases hx:x=t
 ·rw[if_pos hx,hx];exact .inr ⟨hk,hv.trans hu.symm⟩
 ·rw[if_neg hx];exact h x
theorem Aq.sub(N0:Nat){E e:Af}{S S':Ae}(κ:List Nat)(hE:HM κ E e)(hs:SubOk κ S S')(hκ:κ.take N0=List.range N0):Aq N0 e S E S':=by
 rintro N w0 g0 a w hn ⟨h1,h2,g,h3,h4,h5⟩
 refine⟨h1,h2,g.sub κ,h3.sub hs,fun t=>?_,⟨h5.toEvo.sub hs.nodup (hs.lt h3) (by rw[hn];exact hκ),?_,?_⟩⟩
 ·rcases hE t with e1|⟨e1,e2⟩
  ·rw[e1];exact .junk _ _
  ·have :=h4 t
   rw[e2]at this;exact Rel.unren (HY w g κ) this e1
 ·intro d hd
  obtain⟨b,k1,k2,k3,k4,k5⟩:=h5.defs d hd;exact⟨b,k1,k2,k3,k4,fun l hl ho=>k5 (Az κ l) (hs.lt h3 l hl) ho⟩
 ·exact h5.nodup
end Pe
end
section
namespace Pe
open Tryz
open Go Go.RowKit Co Sg Ac It Sl Tp Sr
set_option maxRecDepth 100000
set_option maxHeartbeats 4000000
section
variable {P:Program} {f:FuncId} {xs:List AV} {v:AV} {o o':SObj} {T:Ae}
theorem Kn{pf rf:List FuncId}{e:Af}{d:Option Nat}{rest:List AO}{K:Af→Ae→Prop}{args gargs:List AV}(l:Nat)(h:AC P f args [o] v [o'])(h':Bs P pf rf rest (put e d v) (T.set l o') K)
  (ho:o.ok 0=true)(ho':o'.ok 0=true)(hT:T[l]? = some o:=by rfl)(hg:gargs.map AV.wk=args.map (AV.ren (Az [l])):=by rfl)(ha:args.all (AV.ok 1)=true:=by rfl)(hv:v.ok 0=true:=by rfl):
  Dy (KD P f gargs T) (F1 P pf rf d rest e K):=
 AT (show AC P f (gargs.map AV.wk) T v (T.set l o') by
  have :=h.at1 (T:=T) l (by rw[F6 ho];exact hT) ha (Ev hv (Nat.zero_le 1)) (HZ ho) (HZ ho')
  rwa[Oj hv,F6 ho',←hg]at this) h'
end
def IJ(n:Nat)(E e:Af):Prop:=∀t,E t=.junk∨((E t).ok n=true∧e t=E t)
theorem IJ.nil(n:Nat)(e:Af):IJ n (fun _=>.junk) e:=fun _=>.inl rfl
theorem IJ.cons{n:Nat}{E e:Af}(h:IJ n E e)(t:Nat)(v:AV)(hv:e t=v)(hk:v.ok n=true:=by rfl):IJ n (Aw E t v) e:=fun x=>by
 unfold Aw;by_cases hx:x=t
 ·rw[if_pos hx,hx];exact .inr ⟨hk,hv⟩
 ·rw[if_neg hx];exact h x
theorem Aq.pre(N0:Nat){E e:Af}{S' T:Ae}(hE:IJ S'.length E e)(hok:S'.all (SObj.ok S'.length)=true)(hN:N0≤S'.length:=by exact Nat.le_of_ble_eq_true rfl):Aq N0 e (S'++T) E S':=by
 have hid:∀i,i<S'.length→Az (List.range S'.length) i=i:=fun i hi=>by
  simp[Az,hi]
 refine Aq.sub N0 (List.range S'.length) (fun t=>?_) ⟨List.nodup_range,by simp,fun i o hi=>?_⟩ (by rw[List.take_range,Nat.min_eq_left hN])
 ·rcases hE t with h|⟨h1,h2⟩
  ·exact .inl h
  ·exact .inr ⟨by rw[List.length_range];exact h1,by rw[DG h1 hid];exact h2⟩
 ·have hlt:=(List.getElem?_eq_some_iff.1 hi).1
  have ho:o.ok S'.length=true:=List.all_eq_true.1 hok o (List.mem_of_getElem? hi);rw[List.length_range,hid i hlt];exact⟨ho,by rw[Ly ho hid,List.getElem?_append_left hlt];exact hi⟩
theorem Zkx(it:It.Item)(id:By):AC prog 93 [Ao it,.ptr 0 0] [.cells [.st id]] (.tup [Am it.act,.it .i64 it.act.seq,.bo (it.kind==0&&it.act.author==id)]) [.cells [.st id]]:=by
 cases hk:(it.kind==0)with
 |true=>
  rw[Bool.true_and];generalize hb:(it.act.author==id)=b at *;refine AC.hw 21 func93 rfl (by decide) (Nat.le_of_ble_eq_true rfl) rfl ?_
  refine HW.seq (HW.aw [] [] (by decide) (by kernel_rfl) ?_)
  refine Al ?_
  refine run ?_;refine HW.seq (HW.spec [] [] [0,1] [7,10,12,17,18] [] (by decide) (by decide +kernel) (by decide +kernel) ?_)
  refine Al ?_
  repeat (refine g4 (by rfl) ?_;(first|refine BJ ?_|refine a4 ?_);refine runf4 (an @hb @hk) ?_;(first|refine EO ?_|refine C7 ?_))
  refine EB ?_
  refine HW.aw [] [] (by decide) (by kernel_rfl) ?_
  refine Al ?_
  refine run ?_;exact GZ
 |false=>
  rw[Bool.false_and];refine AC.hw 21 func93 rfl (by decide) (Nat.le_of_ble_eq_true rfl) rfl ?_
  refine HW.seq (HW.aw [] [] (by decide) (by kernel_rfl) ?_)
  refine Al ?_
  refine run ?_;refine HW.seq (HW.spec [] [] [0,1] [7,10,12,17,18] [] (by decide) (by decide +kernel) (by decide +kernel) ?_)
  refine Al ?_
  repeat (refine g4 (by rfl) ?_;(first|refine BJ ?_|refine a4 ?_);refine runf4 @hk ?_;(first|refine EO ?_|refine C7 ?_))
  repeat (refine L8 (by rfl) ?_)
  repeat (refine g4 (by rfl) ?_;(first|refine BJ ?_|refine a4 ?_);refine runf4 @hk ?_;(first|refine EO ?_|refine C7 ?_))
  refine EB ?_
  refine HW.aw [] [] (by decide) (by kernel_rfl) ?_
  refine Al ?_
  refine run ?_;exact GZ
def Fs(id:By)(it:It.Item):Bool:=it.kind==0&&it.act.author==id&&It.right it
def Eg(l:List It.Item)(id:By):List Fa:=(l.filter (Fs id)).map fun it=>⟨it.act.seq,It.digest it,it.act⟩
def actsP(l:List It.Item)(id:By):List Ac.Act:=(Ci AE (Eg l id)).map (·.val)
theorem ZfH(ps:List Int)(l:List It.Item)(id:By)(hl:l.length≤1000)(hz:∀x∈l,Iz x)(hf:(Eg l id).length<20)(hd:(l.map It.digest).Nodup):
  AC prog 92 [BC ps l,.fn (.func 93) [] [.ptr 0 0]] [.cells [.st id]] (Dl (actsP l id)) [.cells [.st id]]:=by
 have hsz:=GV l;have henc:=PD;have hT:Tot AE (Eg l id):=Qt (by
  unfold Eg;rw[List.map_map];exact hd.sublist ((List.filter_sublist).map _))
 have ksort:=Zde _ (Eg l id) rfl hf hT;have hlen:=IV (lt:=AE) (Eg l id);have hstep:∀k (h:k<l.length),Eg (l.take (k+1)) id=Eg (l.take k) id++if Fs id l[k]=true then [⟨l[k].act.seq,It.digest l[k],l[k].act⟩]else []:=fun k h=>by
  unfold Eg;rw[List.take_succ_eq_append_getElem h,List.filter_append,List.map_append];congr 1
  simp only[List.filter_cons,List.filter_nil];split<;>rfl
 unfold actsP;refine Ai [45,14] [] func92 ?_;refine run ?_;refine CG (fun m e S=>e 1=.fn (.func 93) [] [.ptr 0 0]∧e 15=.sl .ro (l.map Ao)∧e 16=.it .i64 (l.length:Int) ∧ ∃(k:Nat) (out:List Fa) (T:Ae),e 17=.it .i64 (k:Int)∧e 5=.wr 2 out.length none∧S=.cells [.st id]::.cells [AB ps,.sl .ro (l.map Ao)]::.row (Ay BU out) 224 22::T∧out=Eg (l.take k) id∧k≤l.length∧m=l.length-k) l.length _ _ (Aq.reserveRowT 1 5 (by rfl) 224 (sz:=22) (by decide))
  ⟨Ab,Ab,Ab,0,[],[],Ab,Ab,rfl,rfl,by omega,rfl⟩ ?_
 rintro m e S ⟨s1,s15,s16,k,out,T,s17,s5,rfl,hout,hk,rfl⟩
 have hT1:∀y:SObj,(T++[y])[T.length]? = some y:=fun y=>by simp
 have hT2:∀y z:SObj,(T++[y]).set T.length z=T++[z]:=fun y z=>by simp
 have hT3:∀y z:SObj,(T++[y]++[z])[T.length]? = some y:=fun y z=>by simp
 have hT4:∀y z:SObj,(T++[y]++[z])[T.length+1]? = some z:=fun y z=>by simp
 have hT5:∀y z u:SObj,(T++[y]++[z]).set (T.length+1) u=T++[y]++[u]:=fun y z u=>by simp
 by_cases hlt:k<l.length
 ·have hg:l[k]? = some l[k]:=List.getElem?_eq_getElem hlt
  have hlt':(k:Int)<(l.length:Int):=by omega
  have w1:=Cg (k:=k) (by omega)
  have hst:=hstep k hlt;rw[←hout]at hst;have izk:=hz l[k] (List.getElem_mem hlt);generalize l[k]=it at *;have k1:=Zkx it id;have k2:=F9 it izk;have k3:=Gs it izk;have hF:=FK henc out;have hol:out.length≤1000:=by
   rw[hout];unfold Eg;rw[List.length_map];have :=List.length_filter_le (Fs id) (l.take k);rw[List.length_take]at this;omega
  have hfit:Ct (out.length+1) 288=true:=by unfold Ct;simp only[Bool.and_eq_true,decide_eq_true_eq];omega
  refine Aa (F3 @s1 @s15 @s16 @s17 @s5 @hlt' @hg @hsz @hT1 @hT2) ?_;refine cl (xs:=[Ao it]) 0 k1 ?_;unfold Fs at hst;cases hb:(it.kind==0&&it.act.author==id)with
  |false=>
   rw[hb,Bool.false_and,if_neg (by decide),List.append_nil]at hst
   refine Aa (an @s1 (AA @s15 @s16 @s17 @s5 @hb @w1 @hT1 @hT2 @hT3 @hT4 @hT5)) ?_;exact As (l.length-(k+1)) (by omega) ⟨Ab,Ab,Ab,k+1,out,_,Ab,Ab,rfl,hst.symm,by omega,rfl⟩
  | true=>
   rw[hb,Bool.true_and]at hst;cases hr:It.right it with
   |false=>
    rw[hr,if_neg (by decide),List.append_nil]at hst
    rw[hr]at k2;refine Aa (an @s1 (AA @s15 @s16 @s17 @s5 @hb @w1 @hT1 @hT2 @hT3 @hT4 @hT5)) ?_;refine cp k2 ?_;refine Aa (an @s1 (AA @s15 @s16 @s17 @s5 @hb @w1 @hT1 @hT2 @hT3 @hT4 @hT5)) ?_;exact As (l.length-(k+1)) (by omega) ⟨Ab,Ab,Ab,k+1,out,_,Ab,Ab,rfl,hst.symm,by omega,rfl⟩
   | true=>
    rw[hr,if_pos rfl]at hst;rw[hr]at k2;generalize It.digest it=d at *;refine Aa (an @s1 (AA @s15 @s16 @s17 @s5 @hb @w1 @hT1 @hT2 @hT3 @hT4 @hT5)) ?_;refine cp k2 ?_;refine Aa (an @s1 (AA @s15 @s16 @s17 @s5 @hb @w1 @hT1 @hT2 @hT3 @hT4 @hT5)) ?_;refine cp k3 ?_;refine Aa (an @s1 (an @s15 (an @s16 (AA @s17 @s5 @hb @w1 @hT1 @hT2 @hT3 @hT4 @hT5 @hF @hfit)))) ?_;have hrow:Ay BU out++Ak [ZhQ it.act d]=Ay BU (out++[⟨it.act.seq,d,it.act⟩]):=by
     rw[MP,OL];rfl
    rw[hrow];exact As (l.length-(k+1)) (by omega) ⟨Ab,Ab,Ab,k+1,out++[⟨it.act.seq,d,it.act⟩],_,Ab,by rw[List.length_append];exact Ab,rfl,hst.symm,by omega,rfl⟩
 ·obtain rfl:k=l.length:=by omega
  rw[List.take_length]at hout;subst hout;have hlt':¬(l.length:Int)<(l.length:Int):=by omega
  refine Aa (A6 @s1 @s15 @s16 @s17 @s5 @hlt') ?_;refine Kn 2 ksort ?_ (FJ henc _ _ _ _) (FJ henc _ _ _ _)
  refine Aa (A5 @s1 @s15 @s16 @s17 @s5) ?_;generalize Ci AE (Eg l id)=M at *;have hML:M.length<20:=by omega
  rw[←hlen];clear ksort;refine CG (fun m e S=>e 47=.wr 2 M.length none∧e 48=.it .i64 (M.length:Int) ∧ ∃(k:Nat) (T:Ae),e 49=.it .i64 (k:Int)∧e 11=.sl (.own 3) ((M.take k).map fun p=>Am p.val)∧S=.cells [.st id]::.cells [AB ps,.sl .ro (l.map Ao)]::.row (Ay BU M) 224 22::.buf (M.take k).length 55 20::T∧k≤M.length∧m=M.length-k) M.length (Aw (Aw (Aw (Aw (fun _=>.junk) 47 (.wr 2 M.length none)) 48 (.it .i64 (M.length:Int))) 49 (.it .i64 0)) 11 (.sl (.own 3) [])) [.cells [.st id],.cells [AB ps,.sl .ro (l.map Ao)],.row (Ay BU M) 224 22,.buf 0 55 20] ?_
   ⟨Ab,Ab,0,[],Ab,Ab,rfl,by omega,rfl⟩ ?_
  ·refine Aq.sub 1 [0,1,2,T.length+3] (((((HM.nil _ _).cons 47 (.wr 2 M.length none) (.wr 2 M.length none) rfl rfl Ab).cons 48 (.it .i64 (M.length:Int)) _ rfl rfl Ab).cons 49 (.it .i64 0) _ rfl rfl Ab).cons 11 (.sl (.own 3) []) (.sl (.own (T.length+3)) []) rfl rfl Ab) ⟨?_,rfl,fun i o hi=>?_⟩ rfl
   ·simp
   ·match i,hi with
    |0,hi=>cases hi;exact⟨rfl,rfl⟩
    |1,hi=>cases hi;exact⟨rfl,rfl⟩
    |2,hi=>cases hi;exact⟨FJ henc M _ _ 4,by rw[F6 (FJ henc M _ _ 0)];rfl⟩
    |3,hi=>
     cases hi
     refine⟨rfl,?_⟩
     show(T++[SObj.buf 0 55 20])[T.length]? = _
     simp
     rfl
  clear s1 s15 s16 s17 s5 hT1 hT2 hT3 hT4 hT5;rintro m e S ⟨s47,s48,k,T,s49,s11,rfl,hk,rfl⟩
  have hT1:∀y:SObj,(T++[y])[T.length]? = some y:=fun y=>by simp
  have hT2:∀y z:SObj,(T++[y]).set T.length z=T++[z]:=fun y z=>by simp
  have hF:=FK henc M;have hkl:(M.take k).length≤40:=by rw[List.length_take];omega
  by_cases hlt:k<M.length
  ·have hg:M[k]? = some M[k]:=List.getElem?_eq_getElem hlt
   have hlt':(k:Int)<(M.length:Int):=by omega
   have h0:(0:Int)≤(k:Int):=by omega
   have w1:=Cg (k:=k) (by omega)
   have ha:=H6 henc M k _ hg;have hb:k*22+22≤M.length*22:=by omega
   have htk:M.take (k+1)=M.take k++[M[k]]:=List.take_succ_eq_append_getElem hlt;have hsa:AH 20 ((M.take k).map fun p=>Am p.val)=true:=BM 20 (fun p:Fa=>Am p.val) (fun _=>rfl) _
   generalize M[k]=x at *;change((Ay BU M).drop (k*22)).take 22=BW BU x at ha;have hce:AV.agg (BW BU x)=.agg [.it .i64 x.rank,.st x.dig,.st x.val.author,.it .i64 x.val.seq,.st x.val.prev,.it .i64 x.val.kind,.it .i64 x.val.time,.st x.val.object,.st x.val.target,.it .i64 x.val.scope,.st x.val.group,B8 x.val.to,.st x.val.text,.st x.val.body.nonce,.st x.val.body.data,.st x.val.body.tag,.it .i64 x.val.epoch,.sl .ro (x.val.wraps.map Bo),.it .i64 x.val.n,.it .i64 x.val.m,.it .i64 x.val.sig.e,.it .i64 x.val.sig.s]:=rfl;have hap:(if k*22=0∧22=M.length*22 then some (AV.agg (Ay BU M))else some (.agg (BW BU x)))=some (.agg [.it .i64 x.rank,.st x.dig,.st x.val.author,.it .i64 x.val.seq,.st x.val.prev,.it .i64 x.val.kind,.it .i64 x.val.time,.st x.val.object,.st x.val.target,.it .i64 x.val.scope,.st x.val.group,B8 x.val.to,.st x.val.text,.st x.val.body.nonce,.st x.val.body.data,.st x.val.body.tag,.it .i64 x.val.epoch,.sl .ro (x.val.wraps.map Bo),.it .i64 x.val.n,.it .i64 x.val.m,.it .i64 x.val.sig.e,.it .i64 x.val.sig.s]):=by
    rw[←hce];split
    ·rename_i hc
     rw[←ha,hc.1,List.drop_zero,List.take_of_length_le (by omega)]
    ·rfl
   clear hce;refine Aa (an @s47 (an @s48 (an @s49 (an @s11 (AA @hlt' @h0 @hg @ha @hF @hb @hap @hT1 @hT2 @hsa @w1))))) ?_;exact As (M.length-(k+1)) (by omega) ⟨Ab,Ab,k+1,_,Ab,by rw[htk,List.map_append];exact Ab,by rw[htk,List.length_append];rfl,by omega,rfl⟩
  ·obtain rfl:k=M.length:=by omega
   have hlt':¬(M.length:Int)<(M.length:Int):=by omega
   rw[List.take_length]at s11;refine Aa (A5 @s47 @s48 @s49 @s11 @hlt') ?_;exact SV (hv:=by
    show AV.sl .ro (M.map fun p=>Am p.val)=AV.sl .ro ((M.map (·.val)).map Am)
    rw[List.map_map];rfl)
theorem ZaH(ps:List Int)(l:List It.Item)(id:By)(hl:l.length≤1000)(hz:∀x∈l,Iz x)(hf:(Eg l id).length<20)(hd:(l.map It.digest).Nodup):
  AC prog 33 [BC ps l,.st id] [] (Dl (actsP l id)) []:=by
 have k:=ZfH ps l id hl hz hf hd;refine Ai [] [] func33 ?_;refine run ?_;refine Tr 1 k ?_;refine run ?_;exact AQ
end Pe
end
section
namespace Pe
open Tryz
open Go Go.RowKit Co Sg Ac It Sl Tp
set_option maxRecDepth 100000
set_option maxHeartbeats 4000000
abbrev Fl(n:Int)(s:By):Value:=.agg #[.int .i64 n,.string ⟨s.toArray⟩]
abbrev Eu(n:Int)(s:By):AV:=.agg [.it .i64 n,.st s]
theorem Rr{w:World}{g:Gh}{n:Int}{s:By}{cv:Value}(h:Rel w g (Eu n s) cv):cv=Fl n s:=by
 cases h with
 | agg _ _ arr hn h1 hr=>
  have hs:arr.size=2:=by simpa using hn
  have e0:=hr 0 (.it .i64 n) arr[0] rfl (Array.getElem?_eq_getElem (by omega))
  have e1:=hr 1 (.st s) arr[1] rfl (Array.getElem?_eq_getElem (by omega))
  have f0:arr[0]=.int .i64 n:=by
   generalize arr[0]=x at e0;cases e0
   rfl
  have f1:arr[1]=.string ⟨s.toArray⟩:=by
   generalize arr[1]=x at e1;cases e1
   rfl
  congr 1
  apply Array.ext
  ·simpa using hs
  ·intro i hi hi'
   have:i=0∨i=1:=by simp at hi';omega
   rcases this with rfl|rfl
   ·exact f0
   ·exact f1
theorem Rs{w:World}{g:Gh}(n:Int)(s:By):Rel w g (Eu n s) (Fl n s):=by
 refine .agg _ _ _ rfl ?_ ?_
 ·intro v hv
  simp at hv
  rcases hv with rfl|rfl<;>rfl
 ·intro j u v hu hv
  match j,hu,hv with
  |0,hu,hv=>cases hu;cases hv;exact .it _ _ _
  |1,hu,hv=>cases hu;cases hv;exact .st _ _
theorem Wg{P:Program}{t:TypeId}(ha:∀w,(isAgg t).run P w=.ok false w){cs:Array Value}{o:Nat}{v:Value}(hv:cs[o]? = some v)(w:World):(part t cs o).run P w=.ok v w:=by
 unfold part;simp[Sem.run_bind,ha,hv]
theorem Rv(w:World)(b:Bool)(n:Int)(s:By):(Instr.checkKey b 10000 103 (Fl n s)).run prog w=.ok () w:=by
 have h1:∀w,(Instr.checkKey b 9999 3 (.int .i64 n)).run prog w=.ok () w:=fun w=>Go.MapKept.run_checkKey (d:=.int .i64) underlying3 (show Go.MapKept.IsKey (.int .i64) (.int .i64 n)from rfl) b 9998
 have h2:∀w,(Instr.checkKey b 9999 9 (.string ⟨s.toArray⟩)).run prog w=.ok () w:=fun w=>Go.MapKept.run_checkKey (d:=.string) underlying9 (show Go.MapKept.IsKey .string (.string ⟨s.toArray⟩)from trivial) b 9998
 have p1:∀w,(part 3 #[.int .i64 n,.string ⟨s.toArray⟩] 0).run prog w=.ok (.int .i64 n) w:=fun w=>Wg (fun w=>by simp[Tryz.isAgg3]) rfl w
 have p2:∀w,(part 9 #[.int .i64 n,.string ⟨s.toArray⟩] 1).run prog w=.ok (.string ⟨s.toArray⟩) w:=fun w=>Wg (fun w=>by simp[Tryz.isAgg9]) rfl w
 unfold Instr.checkKey;simp[run_underlying underlying103,Sem.run_bind,Result.andThen,h1,h2,p1,p2]
theorem Zfw(w:World)(n m:Int)(s t:By):(Op.equal 103 (Fl n s) (Fl m t)).run prog w=.ok (n==m&&s==t) w:=by
 have h:FC prog 3 103 (Eu n s) (Eu m t)=some (n==m&&s==t):=by
  simp[FC,G5,apart,Ls,Lr,Lh,KZ,KV,KU,KS,KR,KQ,KP,Lq,Lp,Lo,Ln,Lm,Ll,Lk,Lj,Li,Lg,Lf,Ld,Lc,Lb,La,KY,KX,KW]
 exact TV (P:=prog) (w:=w) (g:=⟨fun _=>0,fun _=>0,fun _ _=>False,0,fun _=>false,fun _=>0,fun _=>0⟩) 9997 3 103 _ _ _ _ _ h (Rs n s) (Rs m t)
theorem Zfv(w:World)(n:Int)(s:By):(Instr.findKey 103 (Fl n s) []).run prog w=.ok none w:=by
 simp[Instr.findKey,run_underlying underlying103,Instr.findNow,Result.andThen]
end Pe
end
section
namespace Pe
open Tryz
open Go Go.RowKit Co Sg Ac It Sl Tp
set_option maxRecDepth 100000
set_option maxHeartbeats 4000000
abbrev Dm:=(Int×By)×AV
def Dg(n:Int)(s:By):List Dm→Nat→Option Nat
 |[],_=>none
 |p::es,i=>if n==p.1.1&&s==p.1.2 then some i else Dg n s es (i+1)
theorem XB(n:Int)(s:By):∀(es:List Dm) (i j:Nat),Dg n s es i=some j→i≤j
 |[],_,_,h=>by cases h
 |q::es,i,j,h=>by
  unfold Dg at h;split at h
  ·cases h;exact Nat.le_refl _
  ·exact Nat.le_of_succ_le (XB n s es _ _ h)
abbrev DK(es:List Dm):SObj:=.map (es.map fun p=>(Eu p.1.1 p.1.2,p.2))
def Ku(n:Int)(s:By)(es:List Dm):AV:=match Dg n s es 0 with
 |some j=>(es.getD j ((0,[]),.sl .full [])).2
 |none=>.sl .full []
theorem Yg(n:Int)(s:By)(w:World):∀(es:List Dm) (me:List MapEntry) (i:Nat),me.length=es.length→(∀(j:Nat) p x,es[j]? = some p→me[j]? = some x→x.key=Fl p.1.1 p.1.2) →
  (Instr.findAsking 103 (Fl n s) me i).run prog w=.ok ((Dg n s es i).bind fun j=>(me[j-i]?).map fun x=>(j,x.val)) w
 |[],[],i,_,_=>rfl
 |[],x::me,i,h,_=>by simp at h
 |p::es,[],i,h,_=>by simp at h
 | p::es,x::me,i,h,hk=>by
  have h0:=hk 0 p x rfl rfl;have ih:=Yg n s w es me (i+1) (by simpa using h) (fun j p x hp hx=>hk (j+1) p x hp hx)
  obtain⟨key,val,born⟩:=x;simp only at h0
  subst h0;unfold Instr.findAsking Dg;simp only[Sem.run_bind,Zfw,Result.andThen_ok];cases hb:(n==p.1.1&&s==p.1.2)with
  |true=>simp
  | false=>
   simp only[Bool.false_eq_true,if_false];rw[ih];congr 1
   cases hj:Dg n s es (i+1)with
   |none=>rfl
   |some j=>
    have :=XB _ _ _ _ _ hj;simp only[Option.bind_some];rw[show j-i=(j-(i+1))+1 by omega,List.getElem?_cons_succ]
theorem Yf(n:Int)(s:By)(w:World)(es:List Dm)(me:List MapEntry)(h:me.length=es.length)(hk:∀(j:Nat) p x,es[j]? = some p→me[j]? = some x→x.key=Fl p.1.1 p.1.2):
  (Instr.findKey 103 (Fl n s) me).run prog w=.ok ((Dg n s es 0).bind fun j=>(me[j]?).map fun x=>(j,x.val)) w:=by
 have ha:=Yg n s w es me 0 h hk;simp only[Nat.sub_zero]at ha;cases me with
 |nil=>
  cases es with
  |nil=>exact Zfv w n s
  |cons p es=>simp at h
 |cons x me=>
  simp only[Instr.findKey,run_underlying underlying103,Instr.findNow,Instr.sameNow,Sem.run_bind,Result.andThen_ok];exact ha
theorem V7{w:World}{g:Gh}{es:List Dm}{me:Array MapEntry}(hsz:me.size=(es.map fun p=>(Eu p.1.1 p.1.2,p.2)).length)(hrel:∀(j:Nat) u x,(es.map fun p=>(Eu p.1.1 p.1.2,p.2))[j]? = some u→me[j]? = some x→Rel w g u.1 x.key∧Rel w g u.2 x.val):
  me.toList.length=es.length∧(∀(j:Nat) p x,es[j]? = some p→me.toList[j]? = some x→x.key=Fl p.1.1 p.1.2) ∧ ∀(j:Nat) p x,es[j]? = some p→me[j]? = some x→Rel w g p.2 x.val:=by
 refine⟨by simpa using hsz,fun j p x hp hx=>?_,fun j p x hp hx=>?_⟩
 ·have :=(hrel j (Eu p.1.1 p.1.2,p.2) x (by rw[List.getElem?_map,hp];rfl) (by rw[←Array.getElem?_toList];exact hx)).1
  exact Rr this
 ·exact(hrel j (Eu p.1.1 p.1.2,p.2) x (by rw[List.getElem?_map,hp];rfl) hx).2
theorem Nx{o:Oper}{e:Af}{S:Ae}{m k:Operand}{l:Nat}{n:Int}{s:By}{es:List Dm}(ho:o.op=.lookup 97 m k false)(hm:ev e m=.mp l)(hk:ev e k=Eu n s)(hS:S[l]? = some (DK es)):
  AR prog o e S (Ku n s es) S:=
 Dj fun ρ w g hw hr=>by
  have hrm:=hr m (by rw[ho];simp[Op.operands])
  have hrk:=hr k (by rw[ho];simp[Op.operands])
  rw[hm]at hrm;rw[hk]at hrk;have hkc:=Rr hrk;generalize hcm:ρ m=cm at hrm;cases hrm with
  | mp _ _ hl hb=>
   obtain⟨hbf,hown,hG,me,clock,hheap,hsz,hlt,hnd,hrel⟩:=hw.obj l _ hS;obtain⟨m1,m2,m3⟩:=V7 hsz hrel;have hf:=Yf n s w es me.toList m1 m2;have hnil:Rel w g (.sl .full []) (.slice none 0 0):=.sl _ .full [] none 0 0 (fun _=>undef) (Nat.le_refl _) (Nat.zero_le _) (by simp) (fun h=>absurd h (Nat.lt_irrefl 0)) (by simp[Ak]) (by simp[Ak]) rfl
   unfold Ku;cases hj:Dg n s es 0 with
   |none=>
    rw[hj]at hf;refine⟨.slice none 0 0,w,g,?_,hw,hnil,Evo.refl w g⟩
    unfold execOp;simp only[ho,hcm,hkc];simp[Instr.lookup,run_underlying underlying97,Go.MapKept.run_getObj_map hheap,Rv,hf]
   | some j=>
    rw [hj]at hf;have hjl:j<es.length:=by
     have:∀(es:List Dm) (i j:Nat),Dg n s es i=some j→j<i+es.length:=by
      intro es;induction es with
      |nil=>intro i j h;cases h
      |cons q es ih=>
       intro i j h;unfold Dg at h;split at h
       ·cases h;simp
       ·have :=ih _ _ h;rw[List.length_cons];omega
     have :=this es 0 j hj;omega
    have hjm:j<me.size:=by simp at m1;omega
    have hx:me[j]? = some me[j]:=Array.getElem?_eq_getElem hjm
    have hp:es[j]? = some es[j]:=List.getElem?_eq_getElem hjl
    have hr2:=m3 j _ _ hp hx;have hd:es.getD j ((0,[]),.sl .full [])=es[j]:=by rw[List.getD_eq_getElem?_getD,hp];rfl
    simp only[hd];refine⟨me[j].val,w,g,?_,hw,hr2,Evo.refl w g⟩
    have hx':me.toList[j]? = some me[j]:=by rw[Array.getElem?_toList];exact hx
    simp only[Option.bind_some,hx',Option.map_some]at hf;unfold execOp;simp only[ho,hcm,hkc];simp[Instr.lookup,run_underlying underlying97,Go.MapKept.run_getObj_map hheap,Rv,hf]
theorem ZiD{o:Oper}{e:Af}{S:Ae}{m k:Operand}{l:Nat}{n:Int}{s:By}{es:List Dm}(ho:o.op=.mapEntry 97 m k)(hm:ev e m=.mp l)(hk:ev e k=Eu n s)(hS:S[l]? = some (DK es))(hf:Dg n s es 0=none):
  AR prog o e S (.tup [.sl .full [],.it .i64 (es.length:Int)]) (S.set l (DK (es++[((n,s),.sl .full [])]))):=
 Dj fun ρ w g hw hr=>by
  have hrm:=hr m (by rw[ho];simp[Op.operands])
  have hrk:=hr k (by rw[ho];simp[Op.operands])
  rw[hm]at hrm;rw[hk]at hrk;have hkc:=Rr hrk;generalize hcm:ρ m=cm at hrm;cases hrm with
  | mp _ _ hl hb=>
   obtain⟨hbf,hown,hG,me,clock,hheap,hsz,hlt,hnd,hrel⟩:=hw.obj l _ hS;obtain⟨m1,m2,m3⟩:=V7 hsz hrel;have hff:=Yf n s w es me.toList m1 m2;rw[hf]at hff;have hcl:clock=es.length:=by rw[hlt.2.1,hsz,List.length_map]
   have hplt:g.pl l<w.heap.size:=(Array.getElem?_eq_some_iff.1 hheap).1
   have hlS:=(List.getElem?_eq_some_iff.1 hS).1
   have hle:=Le.setObj (w:=w) hG (.map (me.push ⟨Fl n s,.slice none 0 0,clock⟩) (clock+1));have hnil:∀w g,Rel w g (.sl .full []) (.slice none 0 0):=fun w g=>.sl _ .full [] none 0 0 (fun _=>undef) (Nat.le_refl _) (Nat.zero_le _) (by simp) (fun h=>absurd h (Nat.lt_irrefl 0)) (by simp[Ak]) (by simp[Ak]) rfl
   obtain⟨q1,q2⟩:=hw.put (o:=DK (es++[((n,s),.sl .full [])])) (ob:=.map (me.push ⟨Fl n s,.slice none 0 0,clock⟩) (clock+1)) hlS hown hG ⟨hbf,hown,hG,me.push ⟨Fl n s,.slice none 0 0,clock⟩,clock+1,by simp[hplt],by simp at hsz ⊢;omega,⟨fun y hy=>by
     simp only[Array.toList_push,List.mem_append,List.mem_singleton]at hy;rcases hy with hy|rfl
     ·exact Nat.lt_succ_of_lt (hlt.1 y hy)
     ·exact Nat.lt_succ_self _,by simp[hlt.2.1],fun i y hy=>by
     rw[Array.getElem?_push]at hy
     split at hy
     ·rename_i hi
      cases hy
      rw[hi];exact hlt.2.1
     ·exact hlt.2.2 i y hy⟩,by
     rw[Array.toList_push,List.map_append,List.nodup_append];refine⟨hnd,by simp,fun a ha b hb hab=>?_⟩
     obtain⟨y,hy,rfl⟩:=List.mem_map.1 ha;simp only[List.map_cons,List.map_nil,List.mem_singleton]at hb;have :=hlt.1 y hy;omega,fun j u y hu hy=>by
     rw[Array.getElem?_push]at hy
     rw[List.map_append,List.getElem?_append]at hu
     split at hy
     ·rename_i hi
      cases hy
      rw[if_neg (by rw[hi,hsz];omega),hi,hsz,Nat.sub_self]at hu
      cases hu
      exact⟨Rs n s,hnil _ _⟩
     ·rename_i hi
      have hj:j<me.size:=(Array.getElem?_eq_some_iff.1 hy).1
      rw[if_pos (by rw[←hsz];exact hj)]at hu
      have :=hrel j u y hu hy;exact⟨this.1.le hle,this.2.le hle⟩⟩
   refine⟨.tuple #[.slice none 0 0,.int .i64 clock],_,g,?_,q1,?_,q2⟩
   ·unfold execOp
    simp only[ho,hcm,hkc];simp[Instr.mapEntry,run_underlying underlying97,Go.MapKept.run_getObj_map hheap,Rv,hff,Go.MapKept.run_setObj_map _ hheap,goInt]
   ·rw[hcl]
    refine .tup _ _ _ rfl fun j u v hu hv=>?_
    match j,hu,hv with
    |0,hu,hv=>cases hu;cases hv;exact hnil _ _
    |1,hu,hv=>cases hu;cases hv;exact .it _ _ _
theorem ZiC{o:Oper}{e:Af}{S:Ae}{t:TypeId}{m s x:Operand}{l:Nat}{v v0:AV}{p:Int×By}{es:List Dm}(ho:o.op=.entryStore t m s x)(hm:ev e m=.mp l)(hs:ev e s=.it .i64 (es.length:Int))(hx:ev e x=v)(hS:S[l]? = some (DK (es++[(p,v0)]))):
  AR prog o e S .junk (S.set l (DK (es++[(p,v)]))):=
 S7 fun ρ w g hw hr=>by
  have hrm:=hr m (by rw[ho];simp[Op.operands])
  have hrs:=hr s (by rw[ho];simp[Op.operands])
  have hrx:=hr x (by rw[ho];simp[Op.operands])
  rw[hm]at hrm;rw[hs]at hrs;rw[hx]at hrx;generalize hcm:ρ m=cm at hrm;generalize hcs:ρ s=cs at hrs;generalize hcx:ρ x=cx at hrx;cases hrs
  cases hrm with
  | mp _ _ hl hb=>
   obtain⟨hbf,hown,hG,me,clock,hheap,hsz,hlt,hnd,hrel⟩:=hw.obj l _ hS;have hsz':me.size=es.length+1:=by simpa using hsz
   have hplt:g.pl l<w.heap.size:=(Array.getElem?_eq_some_iff.1 hheap).1
   have hlS:=(List.getElem?_eq_some_iff.1 hS).1
   have hle:=Le.setObj (w:=w) hG (.map (me.modify es.length fun e=>{ e with val:=cx }) clock)
   have hidx:me.findIdx? (fun e=>(e.born:Int)==(es.length:Int))=some es.length:=by
    rw[Array.findIdx?_eq_some_iff_getElem]
    refine⟨by omega,?_,fun j hj=>?_⟩
    ·have :=hlt.2.2 es.length _ (Array.getElem?_eq_getElem (by omega))
     simp[this]
    ·have :=hlt.2.2 j _ (Array.getElem?_eq_getElem (by omega))
     simp[this]
     omega
   obtain⟨q1,q2⟩:=hw.put (o:=DK (es++[(p,v)])) (ob:=.map (me.modify es.length fun e=>{ e with val:=cx }) clock) hlS hown hG ⟨hbf,hown,hG,me.modify es.length fun e=>{ e with val:=cx },clock,by simp[hplt],by simpa using hsz',⟨fun y hy=>by
     obtain⟨j,hj⟩:=List.mem_iff_getElem?.1 hy;have hj:(me.modify es.length fun e=>{ e with val:=cx })[j]? = some y:=by rw[←Array.getElem?_toList];exact hj
     rw[Array.getElem?_modify]at hj
     split at hj
     ·obtain⟨y',h8,rfl⟩:=Option.map_eq_some_iff.1 hj
      exact hlt.1 y' (by rw[Array.mem_toList_iff];exact Array.mem_of_getElem? h8)
     ·exact hlt.1 y (by rw[Array.mem_toList_iff];exact Array.mem_of_getElem? hj),by simpa using hlt.2.1,fun i y hy=>by
     rw[Array.getElem?_modify]at hy
     split at hy
     ·obtain⟨y',h8,rfl⟩:=Option.map_eq_some_iff.1 hy
      exact hlt.2.2 i y' h8
     ·exact hlt.2.2 i y hy⟩,by
     have:(me.modify es.length fun e=>{ e with val:=cx }).toList.map (·.born)=me.toList.map (·.born):=by
      refine List.ext_getElem? fun j'=>?_
      rw[List.getElem?_map,List.getElem?_map,Array.getElem?_toList,Array.getElem?_toList,Array.getElem?_modify]
      split
      ·cases me[j']?<;>rfl
      ·rfl
     rw[this];exact hnd,fun j u y hu hy=>by
     rw[Array.getElem?_modify]at hy
     rw[List.map_append,List.getElem?_append]at hu
     by_cases hj:j=es.length
     ·subst hj
      rw[if_pos rfl]at hy;rw[if_neg (by rw[List.length_map];omega),List.length_map,Nat.sub_self]at hu
      cases hu
      obtain⟨y',h8,rfl⟩:=Option.map_eq_some_iff.1 hy;have :=hrel es.length (Eu p.1 p.2,v0) y' (by rw[List.map_append,List.getElem?_append_right (by rw[List.length_map];exact Nat.le_refl _),List.length_map,Nat.sub_self];rfl) h8
      exact⟨this.1.le hle,hrx.le hle⟩
     ·rw[if_neg (Ne.symm hj)]at hy
      have hjl:j<es.length:=by
       have :=(Array.getElem?_eq_some_iff.1 hy).1
       omega
      rw[if_pos (by rw[List.length_map];exact hjl)]at hu
      have :=hrel j u y (by rw[List.map_append,List.getElem?_append_left (by rw[List.length_map];exact hjl)];exact hu) hy
      exact⟨this.1.le hle,this.2.le hle⟩⟩
   refine⟨_,g,?_,q1,q2⟩
   unfold execOp;simp only[ho,hcm,hcs,hcx];simp[Instr.entryStore,Go.MapKept.run_getObj_map hheap,Go.MapKept.run_setObj_map _ hheap,asInt,asIntOf,hidx]
theorem Aq.wkMap(N0:Nat){e:Af}{S:Ae}(l:Nat){es:List (AV×AV)}(hS:S[l]? = some (.map es)):Aq N0 e S e (S.set l (.map (es.map fun p=>(p.1,p.2.wk1)))):=by
 rintro N w0 g0 a w hn ⟨h1,h2,g,h3,h4,h5⟩
 have hlS:=(List.getElem?_eq_some_iff.1 hS).1
 refine⟨h1,h2,g,⟨by rw[List.length_set];exact h3.nid,fun k o hk=>?_,h3.disj,h3.lt,h3.tab⟩,h4,h5⟩
 by_cases hkl:k=l
 ·subst hkl
  rw[List.getElem?_set_self hlS]at hk
  cases hk
  obtain⟨k1,k2,k3,me,clock,k4,k5,k6,k7,k8⟩:=h3.obj k _ hS;refine⟨k1,k2,k3,me,clock,k4,by rw[List.length_map];exact k5,k6,k7,fun j u v hu hv=>?_⟩
  rw[List.getElem?_map]at hu
  obtain⟨u0,hu0,rfl⟩:=Option.map_eq_some_iff.1 hu;have :=k8 j u0 v hu0 hv;exact⟨this.1,this.2.wk1⟩
 ·rw[List.getElem?_set_ne (Ne.symm hkl)]at hk
  exact h3.obj k o hk
end Pe
end
section
namespace Pe
open Tryz
open Go Go.RowKit Co Sg Ac It Sl Tp
set_option maxRecDepth 100000
set_option maxHeartbeats 8000000
def Fp:List Ac.Act→Nat→List (AV×AV)
 |[],_=>[]
 |a::l,i=>(.st (dg a),.it .i64 (i:Int))::Fp l (i+1)
theorem V9:∀(l:List Ac.Act) (a:Ac.Act) (i:Nat),Fp (l++[a]) i=Fp l i++[(.st (dg a),.it .i64 ((i+l.length:Nat):Int))]
 |[],a,i=>rfl
 |b::l,a,i=>by
  show _::Fp (l++[a]) (i+1)=_::(Fp l (i+1)++_)
  rw[V9 l a (i+1),List.length_cons,show i+1+l.length=i+(l.length+1) by omega]
theorem RB(d:By):∀(l:List Ac.Act) (i j:Nat),DT (.st d) (Fp l i) j=some ((BL l d).map fun k=>(j+k,.it .i64 ((i+k:Nat):Int)))
 |[],_,_=>rfl
 | a::l,i,j=>by
  unfold Fp DT BL;by_cases h:dg a=d
  ·rw[if_pos h,show FP (.st d) (.st (dg a))=some true by unfold FP;rw[h];simp]
   simp
  ·rw[if_neg h,show FP (.st d) (.st (dg a))=some false by unfold FP;simp;exact fun e=>h e.symm]
   simp only
   rw[RB d l (i+1) (j+1)];cases BL l d with
   |none=>rfl
   |some k=>
    simp only[Option.map_some,Option.some.injEq,Prod.mk.injEq];exact⟨by omega,by rw[show i+1+k=i+(k+1) by omega]⟩
theorem XD{d:By}:∀{l:List Ac.Act},d∉l.map dg→BL l d=none
 |[],_=>rfl
 |a::l,h=>by
  rw[List.map_cons,List.mem_cons,not_or]at h;unfold BL;rw[if_neg (fun e=>h.1 e.symm),XD h.2]
  rfl
theorem MX(n:Nat):∀(l:List Ac.Act) (i:Nat),(SObj.map (Fp l i)).ok n=true
 |[],_=>rfl
 |a::l,i=>by
  have :=MX n l (i+1);show(List.all _ _)=true
  rw[Fp,List.all_cons,Bool.and_eq_true];exact⟨rfl,this⟩
abbrev PW(ps:List Int)(items:List AV)(id:By)(A K:List AV)(prev:By)(gen:Int)(fork:Bool)(cl:It.Claim)(won:Bool):SObj:=
 .cells [AB ps,.sl .ro items,.st id,.sl (.own 7) A,.sl (.own 8) K,.st prev,.it .i64 gen,.bo fork,.mp 2,.mp 3,.st cl.actor,.it .i64 cl.base,.st cl.prev,.it .i64 cl.gen,.it .i64 cl.home,.it .i64 cl.pub,.it .i64 cl.time,.it .i64 cl.sig.e,.it .i64 cl.sig.s,.bo won]
abbrev Fx(ps:List Int)(items:List AV)(c:Chn)(cl:It.Claim)(won:Bool):SObj:=PW ps items c.id (c.acts.map Am) (c.keys.map Cr) c.prev c.gen c.fork cl won
abbrev NL(n:Nat):SObj:=.buf n 55 20
abbrev NK(n:Nat):SObj:=.buf n 74 3
def En(c:Chn)(a:Ac.Act):Chn:=
 { c with acts:=c.acts++[a],prev:=dg a,keys:=if a.kind=18 then c.keys++[⟨((c.acts.length+1:Nat):Int),a.n,a.m⟩]else c.keys }
theorem Zkr{c:Chn}{a:Ac.Act}(h:a.kind≠0):En c a=Bi c a:=by
 unfold En Bi;by_cases h18:a.kind=18
 ·rw[if_pos h18,if_pos (.inl h18),if_neg h]
 ·rw[if_neg h18,if_neg (by rintro(e|e);exact h18 e;exact h e)]
section
variable (ps:List Int) (items:List AV) (cl:It.Claim) (won:Bool) (es:List Dm) (o0 o1 c5 c6:SObj)
theorem ZaD(c:Chn)(a:Ac.Act)(ha:Ac.right a=true)(hd:dg a∉c.acts.map dg)(hla:c.acts.length≤100)(hlk:c.keys.length≤200)(hit:items.all (AV.o2 0)=true∨True)
  (h0:o0.ok 9=true)(h1:o1.ok 9=true)(h2:(DK es).ok 9=true)(h4:(Fx ps items (En c a) cl won).ok 9=true)(h5:c5.ok 9=true)(h6:c6.ok 9=true):
  AC prog 36 [.ptr 4 0,Am a] [o0,o1,DK es,.map (Fp c.acts 0),Fx ps items c cl won,c5,c6,NL c.acts.length,NK c.keys.length] (.tup [])
   [o0,o1,DK es,.map (Fp (En c a).acts 0),Fx ps items (En c a) cl won,c5,c6,NL (En c a).acts.length,NK (En c a).keys.length]:=by
 have iza:=EA (act_signed ps ha).1;have k1:=Ww a (by have :=(C3 ha).to.1;omega) (by have :=(C3 ha).wraps.1;omega)
 have k2:=Gs (An a) iza;change AC _ _ _ _ (.st (dg a)) _ at k2;have hkf:=RB (dg a) c.acts 0 0;rw[XD hd]at hkf;change DT _ _ _=some none at hkf;have hps:=V9 c.acts a 0;rw[Nat.zero_add]at hps;have hza:=D6 c.acts;have hzk:=J2 c.keys;have w1:IntKind.i64.wrap ((c.acts.length:Int)+1)=((c.acts.length+1:Nat):Int):=by rw[wrap64 (by omega) (by omega)];omega
 have hl1:(En c a).acts.length=c.acts.length+1:=by show(c.acts++[a]).length=_;simp
 have hA:(En c a).acts=c.acts++[a]:=rfl;have hok3:=MX 9 (c.acts++[a]) 0;by_cases hk:a.kind=18
 ·have hkt:(a.kind==18)=true:=beq_iff_eq.2 hk
  have hK:(En c a).keys=c.keys++[⟨((c.acts.length+1:Nat):Int),a.n,a.m⟩]:=if_pos hk;have hB:Fx ps items (En c a) cl won=PW ps items c.id (c.acts.map Am++[Am a]) (c.keys.map Cr++[Cr (⟨((c.acts.length+1:Nat):Int),a.n,a.m⟩:Tp.KeyAt)]) (dg a) c.gen c.fork cl won:=by
   unfold Fx;rw[hA,hK,List.map_append,List.map_append];rfl
  have hl2:(En c a).keys.length=c.keys.length+1:=by rw[hK];simp
  rw[hB]at h4 ⊢;rw[hl1,hl2,hA,hps];rw[hps]at hok3;generalize dg a=d at *;refine Ai [25,14] [] func36 ?_;refine Aa @hza ?_;refine cp k1 ?_;refine run ?_;refine cp k2 ?_;refine Aa (A4 @hkf @hkt @hzk @w1) ?_;refine Ei ?_;simp only[List.all_cons,List.all_nil,List.length_cons,List.length_nil,Nat.reduceAdd,h0,h1,h2,h4,h5,h6,hok3];rfl
 ·have hkt:(a.kind==18)=false:=CL hk
  have hK:(En c a).keys=c.keys:=if_neg hk;have hB:Fx ps items (En c a) cl won=PW ps items c.id (c.acts.map Am++[Am a]) (c.keys.map Cr) (dg a) c.gen c.fork cl won:=by
   unfold Fx;rw[hA,hK,List.map_append];rfl
  rw[hB]at h4 ⊢;rw[hl1,hK,hA,hps];rw[hps]at hok3;generalize dg a=d at *;refine Ai [25,14] [] func36 ?_;refine Aa @hza ?_;refine cp k1 ?_;refine run ?_;refine cp k2 ?_;refine Aa (A4 @hkf @hkt @hzk @w1) ?_;refine Ei ?_;simp only[List.all_cons,List.all_nil,List.length_cons,List.length_nil,Nat.reduceAdd,h0,h1,h2,h4,h5,h6,hok3];rfl
end
end Pe
end
section
namespace Pe
open Tryz
open Go Go.RowKit
set_option maxRecDepth 100000
variable [Tab]
section
variable {P:Program}
theorem AC.pre{f:FuncId}{args:List AV}{S S':Ae}{v:AV}(h:AC P f args S v S')(T:Ae)(hl:S'.length=S.length)(hS:S.all (SObj.ok S.length)=true)(hS':S'.all (SObj.ok S.length)=true)(ha:args.all (AV.ok S.length)=true)(hv:v.ok S.length=true):
  AC P f args (S++T) v (S'++T):=by
 have hid:∀i,i<S.length→Az (List.range S.length) i=i:=fun i hi=>by simp[Az,hi]
 have hkl:(List.range S.length).length=S.length:=List.length_range;have hsub:SubOk (List.range S.length) (S++T) S:=⟨List.nodup_range,hkl.symm,fun i o hi=>by
  have hlt:=(List.getElem?_eq_some_iff.1 hi).1
  have ho:o.ok S.length=true:=List.all_eq_true.1 hS o (List.mem_of_getElem? hi);rw[hkl,hid i hlt];exact⟨ho,by rw[Ly ho hid,List.getElem?_append_left hlt];exact hi⟩⟩
 have hS2:∀(i:Nat) (o:SObj),S'[i]? = some o→o.ok S'.length=true:=fun i o hi=>by
  rw[hl];exact List.all_eq_true.1 hS' o (List.mem_of_getElem? hi)
 have q:=h.frame (T:=S++T) (List.range S.length) hsub (by rw[hkl];exact ha) (by rw[hl];exact hv) hS2
 have hext:∀i,i<S.length→ext (List.range S.length) (S++T).length i=i:=fun i hi=>by
  unfold ext;rw[hkl,if_pos hi];exact hid i hi
 have e1:args.map (AV.ren (Az (List.range S.length)))=args:=EM (p:=AV.ok S.length) ha fun v hv=>DG hv hid
 have e2:v.ren (ext (List.range S.length) (S++T).length)=v:=DG hv hext;have e3:S'.map (fun o=>o.ren (ext (List.range S.length) (S++T).length))=S':=by
  rw[List.map_congr_left (g:=id) fun o ho=>?_,List.map_id]
  exact Ly (List.all_eq_true.1 hS' o ho) hext
 have e4:after (List.range S.length) (S++T) S'=S'++T:=by
  unfold after;rw[e3,hkl,List.drop_eq_nil_of_le (by omega),List.map_nil,List.append_nil]
  obtain⟨a1,a2,a3⟩:=OE (List.range S.length) (S++T) S' List.nodup_range (fun l hl'=>by
   rw[List.mem_range]at hl';rw[List.length_append];omega) (by rw[hkl];omega)
  refine List.ext_getElem? fun i=>?_
  by_cases hi:i<S.length
  ·have :=a2 i (by rw[hkl];exact hi)
   rw[hid i hi]at this;rw[this,List.getElem?_append_left (by omega)]
  ·rw[a3 i (by rw[List.mem_range];exact hi),List.getElem?_append_right (by omega),List.getElem?_append_right (by omega),hl]
 rw[e1,e2,e4]at q;exact q
end
end Pe
end
section
namespace Pe
open Tryz
open Go Go.RowKit Co Sg Ac It Sl Tp
set_option maxRecDepth 100000
set_option maxHeartbeats 8000000
theorem ZcC(k:Int):AC prog 171 [.it .i64 k] [] (.bo (JJ k)) []:=by
 unfold JJ;by_cases hk:k=4∨k=5∨k=7∨k=8∨k=10∨k=11∨k=17∨k=23
 ·rcases hk with rfl|rfl|rfl|rfl|rfl|rfl|rfl|rfl
  all_goals
   refine Ai [] [] func171 ?_;refine run ?_;exact Ad
 ·have q1:(k==4)=false:=CL (by omega)
  have q2:(k==5)=false:=CL (by omega)
  have q3:(k==7)=false:=CL (by omega)
  have q4:(k==8)=false:=CL (by omega)
  have q5:(k==10)=false:=CL (by omega)
  have q6:(k==11)=false:=CL (by omega)
  have q7:(k==17)=false:=CL (by omega)
  have q8:(k==23)=false:=CL (by omega)
  rw[q1,q2,q3,q4,q5,q6,q7,q8];refine Ai [] [] func171 ?_;refine Aa (A8 @q1 @q2 @q3 @q4 @q5 @q6 @q7 @q8) ?_;exact Ad
section
variable (ps:List Int) (items:List AV) (cl:It.Claim) (won:Bool) (es:List Dm) (o0 o1 c5 c6:SObj)
abbrev B6(ps:List Int)(items:List AV)(cl:It.Claim)(won:Bool)(es:List Dm)(o0 o1 c5 c6:SObj)(c:Chn):Ae:=
 [o0,o1,DK es,.map (Fp c.acts 0),Fx ps items c cl won,c5,c6,NL c.acts.length,NK c.keys.length]
abbrev Jz(ps:List Int)(items:List AV)(cl:It.Claim)(won:Bool)(es:List Dm)(o0 o1 c5 c6:SObj)(c:Chn):Ae:=
 [o0,o1,DK es,.map (Fp c.acts 0),Fx ps items c cl won,c5,c6,NL c.acts.length,NK c.keys.length,.cells [.ptr 4 0]]
structure BOk(ps:List Int)(items:List AV)(cl:It.Claim)(won:Bool)(es:List Dm)(o0 o1 c5 c6:SObj)(c:Chn):Prop where
 o0:∀n,9≤n→o0.ok n=true
 o1:∀n,9≤n→o1.ok n=true
 es:∀n,(DK es).ok n=true
 bld:∀(c:Chn) cl won n,9≤n→(Fx ps items c cl won).ok n=true
 c5:∀n,9≤n→c5.ok n=true
 c6:∀n,9≤n→c6.ok n=true
theorem BOk.st9{c:Chn}(h:BOk ps items cl won es o0 o1 c5 c6 c):(B6 ps items cl won es o0 o1 c5 c6 c).all (SObj.ok 9)=true:=by
 simp only[List.all_cons,List.all_nil,h.o0 9 (Nat.le_refl _),h.o1 9 (Nat.le_refl _),h.es 9,MX 9 c.acts 0,h.bld c cl won 9 (Nat.le_refl _),h.c5 9 (Nat.le_refl _),h.c6 9 (Nat.le_refl _)];rfl
theorem BOk.st10{c:Chn}(h:BOk ps items cl won es o0 o1 c5 c6 c):(Jz ps items cl won es o0 o1 c5 c6 c).all (SObj.ok 10)=true:=by
 simp only[List.all_cons,List.all_nil,h.o0 10 (by omega),h.o1 10 (by omega),h.es 10,MX 10 c.acts 0,h.bld c cl won 10 (by omega),h.c5 10 (by omega),h.c6 10 (by omega)]
 rfl
theorem ZfE(c:Chn)(d:By)(h:BOk ps items cl won es o0 o1 c5 c6 c):
  AC prog 97 [.st d,.ptr 9 0] (Jz ps items cl won es o0 o1 c5 c6 c) (.tup [.it .i64 (((BL c.acts d).getD 0:Nat):Int),.bo (BL c.acts d).isSome]) (Jz ps items cl won es o0 o1 c5 c6 c):=by
 have hok:=h.st10;have hf:=RB d c.acts 0 0;unfold Jz at hok ⊢;cases hi:BL c.acts d with
 |none=>
  rw[hi]at hf;change DT _ _ _=some none at hf;refine Ai [] [] func97 ?_;refine Aa @hf ?_;exact BI hok
 |some i=>
  rw[hi]at hf;simp only[Option.map_some,Nat.zero_add]at hf;show AC _ _ _ _ (.tup [.it .i64 (i:Int),.bo true]) _
  refine Ai [] [] func97 ?_;refine Aa @hf ?_;exact BI hok
end
end Pe
end
section
namespace Pe
open Tryz
open Go Go.RowKit Co Sg Ac It Sl Tp
set_option maxRecDepth 100000
set_option maxHeartbeats 8000000
section
variable (ps:List Int) (items:List AV) (cl:It.Claim) (won:Bool) (es:List Dm) (o0 o1 c5 c6:SObj)
theorem XE{l:List Ac.Act}{d:By}{i:Nat}(h:BL l d=some i):i<l.length:=Pm l d i h
theorem ZhX(c:Chn)(a:Ac.Act)(h:BOk ps items cl won es o0 o1 c5 c6 c)(hl:c.acts.length≤100)(hz:Sz a):
  AC prog 98 [AN c,Am a,.fn (.func 97) [] [.ptr 9 0]] (Jz ps items cl won es o0 o1 c5 c6 c) (.bo (Bp c a)) (Jz ps items cl won es o0 o1 c5 c6 c):=by
 have hok:=h.st10;have k1:=LM a hz;have hp:=ZfE ps items cl won es o0 o1 c5 c6 c a.object h;have hpre:=fun T=>hp.pre T rfl hok hok rfl rfl
 have ku:=fun k=>ZcC k
 have kp:=fun k=>Zft k
 have hsz:=D6 c.acts;clear hp;unfold Jz at hok hpre ⊢;cases h1:Ac.right a with
 |false=>
  rw[h1]at k1;rw[show Bp c a=false by unfold Bp;simp[h1]]
  refine Ai [73,171,172] [] func98 ?_;refine run ?_;refine cp k1 ?_;refine run ?_;exact BI hok
 |true=>
 rw[h1]at k1;by_cases h2:a.author=c.id
 rotate_left
 ·have q2:(!(a.author==c.id))=true:=by simp[h2]
  rw[show Bp c a=false by unfold Bp;simp[h2]]
  refine Ai [73,171,172] [] func98 ?_;refine run ?_;refine cp k1 ?_;refine Aa @q2 ?_;exact BI hok
 have q2:(!(a.author==c.id))=false:=by simp[h2]
 by_cases h3:a.seq=c.acts.length
 rotate_left
 ·have q3:(a.seq !=(c.acts.length:Int))=true:=Fw h3
  rw[show Bp c a=false by unfold Bp;simp[h3]]
  refine Ai [73,171,172] [] func98 ?_;refine run ?_;refine cp k1 ?_;refine Aa (an @q2 @q3) ?_;exact BI hok
 have q3:(a.seq !=(c.acts.length:Int))=false:=Gw h3;by_cases h4:a.prev=c.prev
 rotate_left
 ·have q4:(!(a.prev==c.prev))=true:=by simp[h4]
  rw[show Bp c a=false by unfold Bp;simp[h4]]
  refine Ai [73,171,172] [] func98 ?_;refine run ?_;refine cp k1 ?_;refine Aa (A3 @q2 @q3 @q4) ?_;exact BI hok
 have q4:(!(a.prev==c.prev))=false:=by simp[h4]
 have hf:Bp c a=(decide ((a.kind=0)↔(c.acts.length=0))&&FO c a):=by unfold Bp;simp[h1,h2,h3,h4]
 rw[hf];clear hf;by_cases h56:(a.kind=0)↔(c.acts.length=0)
 rotate_left
 ·have q5:(!((a.kind==0)==((c.acts.length:Int)==0)))=true:=by
   cases e1:(a.kind==0)<;>cases e2:((c.acts.length:Int)==0)<;>simp_all
  rw[decide_eq_false h56,Bool.false_and];refine Ai [73,171,172] [] func98 ?_;refine run ?_;refine cp k1 ?_;refine Aa (A4 @q2 @q3 @q4 @q5) ?_;exact BI hok
 have q5:(!((a.kind==0)==((c.acts.length:Int)==0)))=false:=by
  cases e1:(a.kind==0)<;>cases e2:((c.acts.length:Int)==0)<;>simp_all
 rw[decide_eq_true h56,Bool.true_and];unfold FO;by_cases hk:a.kind≠6∧a.kind≠13∧a.kind≠14
 ·rw[if_pos hk]
  have q6:(a.kind==6)=false:=CL hk.1;have q7:(a.kind==13)=false:=CL hk.2.1;have q8:(a.kind==14)=false:=CL hk.2.2;refine Ai [73,171,172] [] func98 ?_;refine run ?_;refine cp k1 ?_;refine Aa (A7 @q2 @q3 @q4 @q5 @q6 @q7 @q8) ?_;exact BI hok
 rw[if_neg hk];by_cases h6:a.kind=6
 ·have q6:(a.kind==6)=true:=beq_iff_eq.2 h6
  cases hi:BL c.acts a.object with
  |none=>
   rw[hi]at hpre;change ∀T,AC _ _ _ _ (.tup [.it .i64 0,.bo false]) _ at hpre
   refine Ai [73,171,172] [] func98 ?_;refine run ?_;refine cp k1 ?_;refine Aa (A5 @q2 @q3 @q4 @q5 @q6) ?_;refine AT (hpre _) ?_;refine run ?_;exact BI hok
  |some i=>
   rw[hi]at hpre;change ∀T,AC _ _ _ _ (.tup [.it .i64 (i:Int),.bo true]) _ at hpre
   have hil:=XE hi;have hg:c.acts[i]? = some c.acts[i]:=List.getElem?_eq_getElem hil
   have hgd:c.acts.getD i act0=c.acts[i]:=by rw[List.getD_eq_getElem?_getD,hg];rfl
   simp only[if_pos h6,hgd];have x1:(i:Int)<(c.acts.length:Int):=by omega
   have x0:(0:Int)≤(i:Int):=by omega
   generalize c.acts[i]=b at *;have ku:=ku b.kind;refine Ai [73,171,172] [] func98 ?_;refine run ?_;refine cp k1 ?_;refine Aa (A5 @q2 @q3 @q4 @q5 @q6) ?_;refine AT (hpre _) ?_;refine Aa (A4 @x1 @x0 @hg @hsz) ?_;refine cp ku ?_;refine run ?_;exact BI hok
 ·have q6:(a.kind==6)=false:=CL h6
  have q78:(a.kind==13)=true∨((a.kind==13)=false∧(a.kind==14)=true):=by
   by_cases h7:a.kind=13
   ·exact .inl (beq_iff_eq.2 h7)
   ·exact .inr ⟨CL h7,beq_iff_eq.2 (by omega)⟩
  cases hi:BL c.acts a.object with
  | none=>
   rw[hi]at hpre;change ∀T,AC _ _ _ _ (.tup [.it .i64 0,.bo false]) _ at hpre
   refine Ai [73,171,172] [] func98 ?_;refine run ?_;refine cp k1 ?_;rcases q78 with q7|⟨q7,q8⟩
   ·refine Aa (A6 @q2 @q3 @q4 @q5 @q6 @q7) ?_
    refine AT (hpre _) ?_;refine run ?_;exact BI hok
   ·refine Aa (A7 @q2 @q3 @q4 @q5 @q6 @q7 @q8) ?_
    refine AT (hpre _) ?_;refine run ?_;exact BI hok
  | some i=>
   rw[hi]at hpre;change ∀T,AC _ _ _ _ (.tup [.it .i64 (i:Int),.bo true]) _ at hpre
   have hil:=XE hi;have hg:c.acts[i]? = some c.acts[i]:=List.getElem?_eq_getElem hil
   have hgd:c.acts.getD i act0=c.acts[i]:=by rw[List.getD_eq_getElem?_getD,hg];rfl
   simp only[if_neg h6,hgd];have x1:(i:Int)<(c.acts.length:Int):=by omega
   have x0:(0:Int)≤(i:Int):=by omega
   generalize c.acts[i]=b at *;have kp:=kp b.kind;refine Ai [73,171,172] [] func98 ?_;refine run ?_;refine cp k1 ?_;rcases q78 with q7|⟨q7,q8⟩
   ·refine Aa (A6 @q2 @q3 @q4 @q5 @q6 @q7) ?_
    refine AT (hpre _) ?_;refine Aa (A4 @x1 @x0 @hg @hsz) ?_;refine cp kp ?_;refine run ?_;exact BI hok
   ·refine Aa (A7 @q2 @q3 @q4 @q5 @q6 @q7 @q8) ?_
    refine AT (hpre _) ?_;refine Aa (A4 @x1 @x0 @hg @hsz) ?_;refine cp kp ?_;refine run ?_;exact BI hok
end
end Pe
end
section
namespace Pe
open Tryz
open Go Go.RowKit Co Sg Ac It Sl Tp
set_option maxRecDepth 100000
set_option maxHeartbeats 8000000
section
variable (ps:List Int) (items:List AV) (cl:It.Claim) (won:Bool) (es:List Dm) (o0 o1 c5 c6:SObj)
theorem W4(c:Chn)(cl':It.Claim)(won':Bool)(h:BOk ps items cl won es o0 o1 c5 c6 c)(kw:AC prog 20 [.agg [AB ps,.sl .ro items],.st c.id,.it .i64 c.gen] [] (.tup [Br cl',.bo won']) []):
  AC prog 37 [.ptr 4 0] (B6 ps items cl won es o0 o1 c5 c6 c) (.tup []) (B6 ps items cl' won' es o0 o1 c5 c6 c):=by
 have hok:(B6 ps items cl' won' es o0 o1 c5 c6 c).all (SObj.ok 9)=true:=by
  simp only[List.all_cons,List.all_nil,h.o0 9 (Nat.le_refl _),h.o1 9 (Nat.le_refl _),h.es 9,MX 9 c.acts 0,h.bld c cl' won' 9 (Nat.le_refl _),h.c5 9 (Nat.le_refl _),h.c6 9 (Nat.le_refl _)];rfl
 unfold B6 at hok ⊢;refine Ai [20] [] func37 ?_;refine run ?_;refine cp kw ?_;refine run ?_;exact Ei hok
theorem Ze3(c:Chn)(h:BOk ps items cl false es o0 o1 c5 c6 c):
  AC prog 38 [.ptr 4 0] (B6 ps items cl false es o0 o1 c5 c6 c) (.bo false) (B6 ps items cl false es o0 o1 c5 c6 c):=by
 have hok:=h.st9;unfold B6 at hok ⊢;refine Ai [48,13,14] [] func38 ?_;refine run ?_;exact BI hok
theorem Zi7(c:Chn)(h:BOk ps items cl won es o0 o1 c5 c6 c)(hl:c.acts.length≤100)(hlk:c.keys.length≤200)(hk0:c.keys≠[])(hV:Ku (c.acts.length:Int) c.prev es=.sl .full []):
  AC prog 39 [.ptr 4 0] (B6 ps items cl won es o0 o1 c5 c6 c) (.bo false) (B6 ps items cl won es o0 o1 c5 c6 { c with fork:=false }):=by
 have hok:(B6 ps items cl won es o0 o1 c5 c6 { c with fork:=false }).all (SObj.ok 9)=true:=BOk.st9 ps items cl won es o0 o1 c5 c6 (c:={ c with fork:=false }) ⟨h.o0,h.o1,h.es,h.bld,h.c5,h.c6⟩
 unfold B6 at hok ⊢;have hkl:0<c.keys.length:=List.length_pos_iff.2 hk0;have hkp:=J2 c.keys;obtain⟨q,hq⟩:∃q,q=c.keys.length-1:=⟨_,rfl⟩
 have hm1:IntKind.i64.wrap ((c.keys.length:Int)-1)=(q:Int):=by rw[wrap64 (by omega) (by omega)];omega
 have hq1:(q:Int)<(c.keys.length:Int):=by omega
 have hq0:(0:Int)≤(q:Int):=by omega
 have hg:c.keys[q]? = some c.keys[q]:=List.getElem?_eq_getElem (by omega)
 generalize c.keys[q]'(by omega)=key at hg
 refine AC.hw 76 func39 rfl (by decide) (Nat.le_of_ble_eq_true rfl) rfl ?_
 refine HW.seq (HW.aw (P:=prog) [] [] (by decide) (by kernel_rfl) ?_)
 refine Al ?_
 refine run ?_;refine HW.seq (HW.aw (P:=prog) [] [] (by decide) (by kernel_rfl) ?_)
 refine Al ?_
 refine run ?_;refine HW.seq (HW.aw (P:=prog) [] [] (by decide) (by kernel_rfl) ?_)
 refine Al ?_
 refine Aa (A5 @hm1 @hq1 @hq0 @hg @hkp) ?_;refine HW.seq (HW.aw (P:=prog) [] [] (by decide) (by kernel_rfl) ?_)
 refine Al ?_
 refine run ?_;refine HW.seq (HW.aw (P:=prog) [] [] (by decide) (by kernel_rfl) ?_)
 refine Al ?_
 refine run ?_;refine HW.seq (HW.seq (HW.spec4 (P:=prog) [] [] [0] [] [] (by decide) (by decide +kernel) (by decide +kernel) ?_))
 refine IK [_,_,_] [_,_,_,_,_,_,_,_,_,_,_,_,_,_] _ _ (FE (pf:=[]) (rf:=[]) [_,_,_,_,_,_,_,_,_,_,_,_,_,_] _ _ ?_)
 refine Al ?_
 repeat (refine g4 (by rfl) ?_;(first|refine BJ ?_|refine a4 ?_);refine runf4 @hm1 ?_;(first|refine EO ?_|refine C7 ?_))
 refine EB ?_
 refine N8 (fun R=>Nx (n:=(c.acts.length:Int)) (s:=c.prev) (es:=es) rfl (by rfl) (by rfl) (by rfl)) ?_
 rw[hV];refine FE (pf:=[]) (rf:=[]) [_,_] _ _ ?_
 refine Al ?_
 repeat (refine g4 (by rfl) ?_;(first|refine BJ ?_|refine a4 ?_);refine runf4 @hm1 ?_;(first|refine EO ?_|refine C7 ?_))
 refine EB ?_
 refine HW.aw (P:=prog) [35] [98] (by decide) (by kernel_rfl) ?_
 refine Al ?_
 refine run ?_;refine DR ?_
 refine run ?_;refine HW.aw (P:=prog) [] [] (by decide) (by kernel_rfl) ?_
 refine Al ?_
 refine run ?_;exact BI hok
end
end Pe
end
section
namespace Pe
open Tryz
open Go Go.RowKit Co Sg Ac It Sl Tp
set_option maxRecDepth 100000
set_option maxHeartbeats 8000000
section
variable (ps:List Int) (items:List AV) (cl:It.Claim) (won:Bool) (es:List Dm) (o0 o1 c5 c6:SObj)
theorem Zi6(c:Chn)(a:Ac.Act)(h:BOk ps items cl won es o0 o1 c5 c6 c)(hl:c.acts.length≤100)(hlk:c.keys.length≤200)(hk0:c.keys≠[])(hV:Ku (c.acts.length:Int) c.prev es=.sl .ro [Am a])(hra:Ac.right a=true)(hdg:dg a∉c.acts.map dg)(hpub:Db (Cy c).pub):
  AC prog 39 [.ptr 4 0] (B6 ps items cl won es o0 o1 c5 c6 c) (.bo (Bp c a&&B0 (Cy c).pub a)) (B6 ps items cl won es o0 o1 c5 c6 (if(Bp c a&&B0 (Cy c).pub a)=true then En c a else { c with fork:=false })):=by
 have hbk:∀c',BOk ps items cl won es o0 o1 c5 c6 c':=fun c'=>⟨h.o0,h.o1,h.es,h.bld,h.c5,h.c6⟩
 have hok:=BOk.st9 ps items cl won es o0 o1 c5 c6 (hbk { c with fork:=false })
 have hok9:=BOk.st9 ps items cl won es o0 o1 c5 c6 (hbk c);have hok2:=BOk.st9 ps items cl won es o0 o1 c5 c6 (hbk (En c a));have hok10:=BOk.st10 ps items cl won es o0 o1 c5 c6 (hbk c);have hza:Sz a:=(EA (act_signed ps hra).1).act;have kf:=ZhX ps items cl won es o0 o1 c5 c6 c a h hl hza;have kfp:=fun T=>kf.pre T rfl hok10 hok10 (by rfl) rfl
 have kv:=Ux (Cy c).pub a hza hpub;have ka:=ZaD ps items cl won es o0 o1 c5 c6 c a hra hdg hl hlk (.inr trivial) (h.o0 9 (Nat.le_refl _)) (h.o1 9 (Nat.le_refl _)) (h.es 9) (h.bld _ _ _ 9 (Nat.le_refl _)) (h.c5 9 (Nat.le_refl _)) (h.c6 9 (Nat.le_refl _));have kap:=fun T=>ka.pre T rfl hok9 hok2 (by rfl) rfl
 clear kf ka hok9 hok10;unfold Jz at kfp;unfold B6 at hok hok2 ⊢;have hkl:0<c.keys.length:=List.length_pos_iff.2 hk0;have hkp:=J2 c.keys;obtain⟨q,hq⟩:∃q,q=c.keys.length-1:=⟨_,rfl⟩
 have hm1:IntKind.i64.wrap ((c.keys.length:Int)-1)=(q:Int):=by rw[wrap64 (by omega) (by omega)];omega
 have hq1:(q:Int)<(c.keys.length:Int):=by omega
 have hq0:(0:Int)≤(q:Int):=by omega
 have hg:c.keys[q]? = some c.keys[q]:=List.getElem?_eq_getElem (by omega)
 have hkey:Cy c=c.keys[q]'(by omega):=by unfold Cy;rw[List.getD_eq_getElem?_getD,←hq,hg];rfl
 rw[←hkey]at hg;generalize Cy c=key at *;clear hkey;cases hff:Bp c a with
 |false=>
  rw[hff]at kfp;rw[Bool.false_and,if_neg (by decide)]
  refine AC.hw 76 func39 rfl (by decide) (Nat.le_of_ble_eq_true rfl) rfl ?_
  refine HW.seq (HW.aw (P:=prog) [] [] (by decide) (by kernel_rfl) ?_)
  refine Al ?_
  refine run ?_;refine HW.seq (HW.aw (P:=prog) [] [] (by decide) (by kernel_rfl) ?_)
  refine Al ?_
  refine run ?_;refine HW.seq (HW.aw (P:=prog) [] [] (by decide) (by kernel_rfl) ?_)
  refine Al ?_
  refine Aa (A5 @hm1 @hq1 @hq0 @hg @hkp) ?_;refine HW.seq (HW.aw (P:=prog) [] [] (by decide) (by kernel_rfl) ?_)
  refine Al ?_
  refine run ?_;refine HW.seq (HW.aw (P:=prog) [] [] (by decide) (by kernel_rfl) ?_)
  refine Al ?_
  refine run ?_;refine HW.seq (HW.seq (HW.spec4 (P:=prog) [] [] [0] [] [] (by decide) (by decide +kernel) (by decide +kernel) ?_))
  refine IK [_,_,_] [_,_,_,_,_,_,_,_,_,_,_,_,_,_] _ _ (FE (pf:=[]) (rf:=[]) [_,_,_,_,_,_,_,_,_,_,_,_,_,_] _ _ ?_)
  refine Al ?_
  repeat (refine g4 (by rfl) ?_;(first|refine BJ ?_|refine a4 ?_);refine runf4 @hm1 ?_;(first|refine EO ?_|refine C7 ?_))
  refine EB ?_
  refine N8 (fun R=>Nx (n:=(c.acts.length:Int)) (s:=c.prev) (es:=es) rfl (by rfl) (by rfl) (by rfl)) ?_
  rw[hV];refine FE (pf:=[]) (rf:=[]) [_,_] _ _ ?_
  refine Al ?_
  repeat (refine g4 (by rfl) ?_;(first|refine BJ ?_|refine a4 ?_);refine runf4 @hm1 ?_;(first|refine EO ?_|refine C7 ?_))
  refine EB ?_
  refine HW.aw (P:=prog) [35] [98] (by decide) (by kernel_rfl) ?_
  refine Al ?_
  refine run ?_;refine LX fun K hK=>?_
  refine run ?_;refine AT ⟨fun R=>kfp _,rfl⟩ ?_
  refine run ?_;refine hK _ _ ?_
  refine run ?_;refine HW.aw (P:=prog) [] [] (by decide) (by kernel_rfl) ?_
  refine Al ?_
  refine run ?_;exact BI hok
 | true=>
  rw[hff]at kfp;cases hvv:B0 key.pub a with
  |false=>
   rw[hvv]at kv;rw[Bool.true_and,if_neg (by decide)]
   refine AC.hw 76 func39 rfl (by decide) (Nat.le_of_ble_eq_true rfl) rfl ?_
   refine HW.seq (HW.aw (P:=prog) [] [] (by decide) (by kernel_rfl) ?_)
   refine Al ?_
   refine run ?_;refine HW.seq (HW.aw (P:=prog) [] [] (by decide) (by kernel_rfl) ?_)
   refine Al ?_
   refine run ?_;refine HW.seq (HW.aw (P:=prog) [] [] (by decide) (by kernel_rfl) ?_)
   refine Al ?_
   refine Aa (A5 @hm1 @hq1 @hq0 @hg @hkp) ?_;refine HW.seq (HW.aw (P:=prog) [] [] (by decide) (by kernel_rfl) ?_)
   refine Al ?_
   refine run ?_;refine HW.seq (HW.aw (P:=prog) [] [] (by decide) (by kernel_rfl) ?_)
   refine Al ?_
   refine run ?_;refine HW.seq (HW.seq (HW.spec4 (P:=prog) [] [] [0] [] [] (by decide) (by decide +kernel) (by decide +kernel) ?_))
   refine IK [_,_,_] [_,_,_,_,_,_,_,_,_,_,_,_,_,_] _ _ (FE (pf:=[]) (rf:=[]) [_,_,_,_,_,_,_,_,_,_,_,_,_,_] _ _ ?_)
   refine Al ?_
   repeat (refine g4 (by rfl) ?_;(first|refine BJ ?_|refine a4 ?_);refine runf4 @hm1 ?_;(first|refine EO ?_|refine C7 ?_))
   refine EB ?_
   refine N8 (fun R=>Nx (n:=(c.acts.length:Int)) (s:=c.prev) (es:=es) rfl (by rfl) (by rfl) (by rfl)) ?_
   rw[hV];refine FE (pf:=[]) (rf:=[]) [_,_] _ _ ?_
   refine Al ?_
   repeat (refine g4 (by rfl) ?_;(first|refine BJ ?_|refine a4 ?_);refine runf4 @hm1 ?_;(first|refine EO ?_|refine C7 ?_))
   refine EB ?_
   refine HW.aw (P:=prog) [35] [98] (by decide) (by kernel_rfl) ?_
   refine Al ?_
   refine run ?_;refine LX fun K hK=>?_
   refine run ?_;refine AT ⟨fun R=>kfp _,rfl⟩ ?_
   refine run ?_;refine cp kv ?_;refine run ?_;refine hK _ _ ?_
   refine run ?_;refine HW.aw (P:=prog) [] [] (by decide) (by kernel_rfl) ?_
   refine Al ?_
   refine run ?_;exact BI hok
  |true=>
   rw[hvv]at kv;rw[Bool.true_and,if_pos rfl];refine AC.hw 76 func39 rfl (by decide) (Nat.le_of_ble_eq_true rfl) rfl ?_
   refine HW.seq (HW.aw (P:=prog) [] [] (by decide) (by kernel_rfl) ?_)
   refine Al ?_
   refine run ?_;refine HW.seq (HW.aw (P:=prog) [] [] (by decide) (by kernel_rfl) ?_)
   refine Al ?_
   refine run ?_;refine HW.seq (HW.aw (P:=prog) [] [] (by decide) (by kernel_rfl) ?_)
   refine Al ?_
   refine Aa (A5 @hm1 @hq1 @hq0 @hg @hkp) ?_;refine HW.seq (HW.aw (P:=prog) [] [] (by decide) (by kernel_rfl) ?_)
   refine Al ?_
   refine run ?_;refine HW.seq (HW.aw (P:=prog) [] [] (by decide) (by kernel_rfl) ?_)
   refine Al ?_
   refine run ?_;refine HW.seq (HW.seq (HW.spec4 (P:=prog) [] [] [0] [] [] (by decide) (by decide +kernel) (by decide +kernel) ?_))
   refine IK [_,_,_] [_,_,_,_,_,_,_,_,_,_,_,_,_,_] _ _ (FE (pf:=[]) (rf:=[]) [_,_,_,_,_,_,_,_,_,_,_,_,_,_] _ _ ?_)
   refine Al ?_
   repeat (refine g4 (by rfl) ?_;(first|refine BJ ?_|refine a4 ?_);refine runf4 @hm1 ?_;(first|refine EO ?_|refine C7 ?_))
   refine EB ?_
   refine N8 (fun R=>Nx (n:=(c.acts.length:Int)) (s:=c.prev) (es:=es) rfl (by rfl) (by rfl) (by rfl)) ?_
   rw[hV];refine FE (pf:=[]) (rf:=[]) [_,_] _ _ ?_
   refine Al ?_
   repeat (refine g4 (by rfl) ?_;(first|refine BJ ?_|refine a4 ?_);refine runf4 @hm1 ?_;(first|refine EO ?_|refine C7 ?_))
   refine EB ?_
   refine HW.aw (P:=prog) [35] [98] (by decide) (by kernel_rfl) ?_
   refine Al ?_
   refine run ?_;refine LX fun K hK=>?_
   refine run ?_;refine AT ⟨fun R=>kfp _,rfl⟩ ?_
   refine run ?_;refine cp kv ?_;refine run ?_;refine hK _ _ ?_
   refine run ?_;refine HW.aw (P:=prog) [] [] (by decide) (by kernel_rfl) ?_
   refine Al ?_
   refine run ?_;refine AT (kap _) ?_;refine run ?_;exact BI hok2
end
end Pe
end
end Go.Proofs.YtchpmmjmimaigaaGreatDoor
