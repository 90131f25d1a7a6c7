import Derived.Test.YtchpmmjmimaigaaGreatDoorKh16
set_option linter.unusedSectionVars false
set_option linter.unusedVariables false
set_option linter.unusedSimpArgs false
namespace Go.Proofs.YtchpmmjmimaigaaGreatDoor
section
namespace Pe
open Go Go.RowKit
variable [Tab]
def KC(md:Region.Mode)(ops:Array Oper)(listed:Array Bool):Prop:=
 ∀(j:Nat) oj,ops[j]? = some oj→listed.getD j true=true → ∀e∈oj.after,Region.binds md e=true→listed.getD e.on true=true
theorem Y2{md:Region.Mode}{ops:Array Oper}{k:Nat}{listed:Array Bool}(hc:KC md ops listed)(hk:listed.getD k true=false):∀n j,CJ md ops k n j=true→listed.getD j true=false:=by
 intro n;induction n with
 |zero=>intro j hj;unfold CJ at hj;rw[beq_iff_eq.1 hj];exact hk
 | succ n ih=>
  intro j hj;unfold CJ at hj;rw[Bool.or_eq_true]at hj;rcases hj with hj|hj
  ·rw[beq_iff_eq.1 hj];exact hk
  ·cases ho:ops[j]? with
   |none=>rw[ho]at hj;cases hj
   | some oj=>
    rw[ho]at hj;simp only at hj
    rw[Array.any_eq_true']at hj;obtain⟨e,he,h2⟩:=hj;simp only[Bool.and_eq_true]at h2;have h3:=ih e.on h2.2;cases hl:listed.getD j true with
    |false=>rfl
    |true=>
     have :=hc j oj ho hl e he h2.1;rw[h3]at this;cases this
theorem Zn{md:Region.Mode}{ops:Array Oper}{listed:Array Bool}{k:Nat}(hc:KC md ops listed)(hk:k∈Region.ready md ops listed):KC md ops (listed.setIfInBounds k true):=by
 intro j oj hj hl e he hb;obtain⟨_,ok,hok,hall⟩:=mem_ready.1 hk;have hmono:∀i,listed.getD i true=true→(listed.setIfInBounds k true).getD i true=true:=fun i hi=>by
  by_cases hik:k=i
  ·subst hik
   rw[Array.getD_eq_getD_getElem?,Array.getElem?_setIfInBounds]
   simp only[if_true];split<;>rfl
  ·rw[getD_set_ne true hik];exact hi
 refine hmono _ ?_
 by_cases hjk:k=j
 ·subst hjk
  rw[hok]at hj;cases hj
  have h1:=hall e he hb;rcases Nat.lt_or_ge e.on listed.size with h'|h'
  ·simp[h']at h1 ⊢;exact h1
  ·simp[Array.getElem?_eq_none h']at h1
 ·rw[getD_set_ne true hjk]at hl
  exact hc j oj hj hl e he hb
def Na(cls:Op→Cls)(md:Region.Mode)(ops:Array Oper):List Nat→Array Bool→Bool
 |[],listed=>(Region.ready md ops listed).isEmpty
 |k::r,listed=>(Region.ready md ops listed).contains k&&Po cls md ops listed k&&Na cls md ops r (listed.setIfInBounds k true)
def R4(cls:Op→Cls)(ops:Array Oper)(ord:List Nat):Bool:=ord.length==ops.size&&Na cls .any ops ord (Array.replicate ops.size false)
section
variable {P:Program} {N N0:Nat} {w0:World} {g0:Gh} {pf rf:List FuncId}
theorem Ul{cls:Op→Cls}{md:Region.Mode}{ops:Array Oper}{Q:Af→Ae→Prop}:∀(l:List Nat) (listed:Array Bool) (e:Af) (S:Ae),KC md ops listed →
  Na cls md ops l listed=true→Dn P cls ops Q (l.filterMap fun i=>ops[i]?) e S→D8 P cls md ops Q l.length listed e S
 |[],_,_,_,_,hB,h=>⟨by simpa[Na] using hB,h⟩
 |k::l,listed,e,S,hc,hB,h=>by
  simp only[Na,Bool.and_eq_true]at hB;obtain⟨⟨hr,hf⟩,hB'⟩:=hB;have hr:k∈Region.ready md ops listed:=by simpa using hr
  obtain⟨hun,o,h0,_⟩:=mem_ready.1 hr;rw[List.filterMap_cons,h0]at h;have hst:xOp P cls ops k (Dn P cls ops Q (l.filterMap fun i=>ops[i]?)) e S:=by unfold xOp;simp only[h0];exact h
  obtain⟨v,S',hy,hK⟩:=Qg h0 hst;exact Uo h0 l.length listed e S S' (Y2 hc hun) (X3 h0 hf) hr hy (Ul l _ _ _ (Zn hc hr) hB' hK)
theorem ZeY{ro:Option Nat}{cls:Op→Cls}{ops:Array Oper}{ord:List Nat}{id:Nat}{Q:Af→Ae→Prop}{Q':Exit→Act→World→Prop}{e:Af}{S:Ae}{a:Act}{w:World}(hm:P.follows .mixedOrders=true)(hB:R4 cls ops ord=true)(hds:D3 N ops=true)
  (hQ:∀e S a w,AP N w0 g0 e S a w→Q e S→Q' .normal a w)(hc:AP N w0 g0 e S a w)(h:Dn P cls ops Q (ord.filterMap fun i=>ops[i]?) e S):(Code.region id ops true).wpIn (wR ro) 0 P Q' a w:=by
 refine wpIn_region_any hm (IL ro (cls:=cls) hds hQ _ _ e S a _ (hc.draw _) ?_)
 simp only[R4,Bool.and_eq_true,beq_iff_eq]at hB;have h0:KC .any ops (Array.replicate ops.size false):=fun j oj hj hl=>by
  have hlt:j<ops.size:=(Array.getElem?_eq_some_iff.1 hj).1
  simp[hlt]at hl
 have :=Ul (md:=.any) ord (Array.replicate ops.size false) e S h0 hB.2 h;rw[hB.1]at this;exact this
end
def E6(P:Program)(pf rf:List FuncId)(N:Nat)(ord:List (Nat×List Nat)):Code→Bool
 |.region id ops draw=>D3 N ops&&(match ord.lookup id with
  |none=>!draw||Pd (Bh P pf rf) ops
  |some l=>draw&&R4 (Bh P pf rf) ops l)
 |.seq a b=>E6 P pf rf N ord a&&E6 P pf rf N ord b
 |.cond _ a b=>E6 P pf rf N ord a&&E6 P pf rf N ord b
 |.block _ b=>E6 P pf rf N ord b
 |.loop b=>E6 P pf rf N ord b
 |_=>true
def ER(ord:List (Nat×List Nat)):Code→CC
 |.skip=>.skip
 |.label _=>.skip
 |.region id ops _=>(match ord.lookup id with
  |none=>.reg (ops.toList.map (Dh ops))
  |some l=>.reg ((l.filterMap fun i=>ops[i]?).map (Dh ops)))
 |.seq a b=>.seq (ER ord a) (ER ord b)
 |.cond c a b=>.cond c (ER ord a) (ER ord b)
 |.block id b=>.block id (ER ord b)
 |.loop b=>.loop (ER ord b)
 |.exit id=>.exit id
 |.ret=>.ret
 |_=>.bad
section
variable {P:Program} {N N0:Nat} {w0:World} {g0:Gh} {pf rf:List FuncId} {ord:List (Nat×List Nat)}
theorem Zbe{ro:Option Nat}(hm:P.follows .mixedOrders=true)(hN0:g0.nid=N0):∀(c:Code) (Q:AX→Af→Ae→Prop) (e:Af) (S:Ae) (a:Act) (w:World),E6 P pf rf N ord c=true→AP N w0 g0 e S a w→AW P pf rf N0 (ER ord c) Q e S→c.wpIn (wR ro) 0 P (EW N w0 g0 Q) a w:=by
 intro c;induction c with
 |skip=>intro Q e S a w _ hc h;exact wpIn_skip ⟨e,S,hc,h⟩
 |label l=>intro Q e S a w _ hc h;exact wpIn_label ⟨e,S,hc,h⟩
 |ret=>intro Q e S a w _ hc h;exact wpIn_ret ⟨e,S,hc,h⟩
 |exit id=>intro Q e S a w _ hc h;exact wpIn_exit ⟨e,S,hc,h⟩
 | region id ops draw=>
  intro Q e S a w hok hc h;have hQ:∀e S a w,AP N w0 g0 e S a w→Q .norm e S→EW N w0 g0 Q .normal a w:=fun e S a w hc hq=>⟨e,S,hc,hq⟩
  simp only[E6,Bool.and_eq_true]at hok;simp only[ER]at h;cases ho:ord.lookup id with
  |none=>
   rw[ho]at hok h;simp only at hok h
   rw[AW]at h;have hL:=F4 ops.toList e S h;cases draw with
   |false=>exact OO hok.1 hQ hc hL ro
   |true=>exact VF hm (by simpa using hok.2) hok.1 hQ hc hL
  |some l=>
   rw[ho]at hok h;simp only at hok h
   rw[AW]at h;have hL:=F4 _ e S h;cases draw with
   |false=>simp at hok
   |true=>exact ZeY hm (by simpa using hok.2) hok.1 hQ hc hL
 |seq x y ihx ihy=>
  intro Q e S a w hok hc h;simp only[E6,Bool.and_eq_true]at hok;simp only[ER,AW]at h;refine wpIn_seq (Go.wpIn_mono (ihx _ e S a w hok.1 hc h) ?_)
  intro ex a' w' hq;cases ex with
  |normal=>obtain⟨e',S',hc',h'⟩:=hq;exact ihy Q e' S' a' w' hok.2 hc' h'
  |exit id=>exact hq
  |ret=>exact hq
  |_=>exact hq.elim
 | cond c x y ihx ihy=>
  intro Q e S a w hok hc h;simp only[E6,Bool.and_eq_true]at hok;simp only[ER,AW]at h;split at h
  ·rename_i b hb
   have hcb:a.eval c=.bool b:=by
    obtain⟨_,_,g,_,h4,_⟩:=hc;have :=Ka h4 c;rw[hb]at this;cases hv:a.eval c<;>rw[hv]at this<;>cases this
    rfl
   refine wpIn_cond_split hcb (fun ht=>ihx Q e S a w hok.1 hc (h.1 ht)) (fun hf=>ihy Q e S a w hok.2 hc (h.2 hf))
  ·exact h.elim
 | block id c ih=>
  intro Q e S a w hok hc h;simp only[ER,AW]at h;refine wpIn_block (Go.wpIn_mono (ih _ e S a w hok hc h) ?_)
  intro ex a' w' hq;cases ex with
  |normal=>exact hq
  |exit i=>
   obtain⟨e',S',hc',h'⟩:=hq;simp only[EE]at h';simp only[Exit.inBlock];by_cases hi:i=id
   ·rw[if_pos hi]at h' ⊢;exact⟨e',S',hc',h'⟩
   ·rw[if_neg hi]at h' ⊢;exact⟨e',S',hc',h'⟩
  |ret=>exact hq
  |_=>exact hq.elim
 | loop c ih=>
  intro Q e S a w hok hc h;simp only[ER,AW]at h;obtain⟨I,⟨n,e',S',hwk,hI⟩,hround⟩:=h;refine MA (fun n a w=>∃e S,AP N w0 g0 e S a w∧I n e S) n ⟨e',S',hwk N w0 g0 a w hN0 hc,hI⟩ ?_
  rintro n a w ⟨e,S,hc,hI⟩
  refine Go.wpIn_mono (ih _ e S a w hok hc (hround n e S hI)) ?_
  intro ex a' w' hq;cases ex with
  |normal=>
   obtain⟨e1,S1,hc1,n',e2,S2,hlt,hwk',hI'⟩:=hq;exact⟨n',hlt,e2,S2,hwk' N w0 g0 a' w' hN0 hc1,hI'⟩
  |exit i=>exact hq
  |ret=>exact hq
  |_=>exact hq.elim
 |_=>intro Q e S a w _ _ h;exact h.elim
end
end Pe
namespace Pe
open Go Go.RowKit
variable [Tab]
def Mp(P:Program)(t:TypeId)(S:Ae)(n:Nat)(qs:List (Nat×AV)):Option (AV×SObj):=
 match Bt P t with
 |some (el,sz,_)=>if qs.map (·.1)=List.range' 0 n∧(qs.all fun q=>q.2.solid&&q.2.cells.length==sz)=true∧n*sz≤16777216∧0<sz∧(BF P el).isSome=true then some (.wr S.length n none,.row (Ak (qs.map (·.2))) el sz)else none
 |none=>none
theorem ZiA{P:Program}{o:Oper}{e:Af}{S:Ae}{v:AV}{z:SObj}{t:TypeId}{n:Nat}{parts:Array (Nat×Operand)}(ho:o.op=.buildSlice t n parts)
  (h:Mp P t S n (parts.toList.map fun p=>(p.1,ev e p.2))=some (v,z)):AR P o e S v (S++[z]):=
 Dj fun ρ w g hw hr=>by
  unfold Mp at h;split at h
  ·rename_i el sz ag hs
   split at h
   ·rename_i hcond
    obtain⟨hq,hall,hn,hsz,hzs⟩:=hcond;cases h
    obtain⟨hu,hse⟩:=Ep hs;obtain⟨z,hzz⟩:=Option.isSome_iff_exists.1 hzs;obtain⟨iz,zv,hz1,hz2,hz3,_⟩:=KG hzz;have hqs:∀q∈parts.toList.map (fun p=>(p.1,ev e p.2)),q.2.solid=true∧q.2.cells.length=sz:=fun q hq=>by
     have :=(List.all_eq_true.1 hall) q hq;simpa using this
    generalize hzero:(if n*sz=0 then(#[]:Array Value)else zv.cells)=zero at *
    have hzc:∀k:Nat,Value.oneCell' (zero[k]!)=true:=by
     intro k;rw[getElem!_def];split
     ·rename_i x hx
      rw[←hzero]at hx;split at hx
      ·simp at hx
      ·exact hz3 x (List.mem_iff_getElem?.2 ⟨k,by simpa using hx⟩)
     ·rfl
    have hc0:AI w g (List.replicate (n*sz) .junk) ((Array.range (n*sz)).map (zero[· % zero.size]!)):=by
     refine⟨by simp,fun v hv=>?_,fun j u v hu hv=>?_⟩
     ·simp only[Array.toList_map,List.mem_map]at hv
      obtain⟨k,_,rfl⟩:=hv;exact hzc _
     ·rw[List.getElem?_replicate]at hu
      split at hu
      ·cases hu;exact .junk _ _
      ·cases hu
    have hlen:(parts.toList.map (fun p=>(p.1,ev e p.2))).length=n:=by
     have :=congrArg List.length hq;simpa using this
    have hfill:=TU ((List.range n).map fun k=>(k*sz,sz)) sz (parts.toList.map fun p=>(p.1,ev e p.2)) 0 [] (by simp) (by rw[hlen];exact hq) hqs (fun i _ hi=>by
     rw[hlen]at hi;rw[List.getElem?_map,List.getElem?_range (by omega)]
     rfl)
    rw[hlen]at hfill;simp only[List.nil_append]at hfill;obtain⟨arr,h1,h2⟩:=NV (w:=w) (g:=g) ((List.range n).map fun k=>(k*sz,sz)) (fun k=>some (k*sz,sz)) (fun i p hp=>by
     rw[List.getElem?_map]at hp
     obtain⟨a,ha,rfl⟩:=Option.map_eq_some_iff.1 hp;obtain⟨hlt,he⟩:=List.getElem?_eq_some_iff.1 ha
     simp at he
     rw[he]) parts.toList e ρ _ _ _ hc0 (fun p hp=>hr p.2 (by rw[ho];simp only[Op.operands];exact List.mem_map.2 ⟨p,hp,rfl⟩)) hfill
    have hfl:(Ak ((parts.toList.map fun p=>(p.1,ev e p.2)).map (·.2))).length=n*sz:=by
     rw[Ft (sz:=sz) fun x hx=>by
      obtain⟨q,hq,rfl⟩:=List.mem_map.1 hx;exact(hqs q hq).2,List.length_map,hlen]
    have hmx:n≤maxLen:=by
     have:n≤n*sz:=Nat.le_mul_of_pos_right _ hsz;unfold maxLen;omega
    have has:arr.size=n*sz:=by rw[h2.1,hfl]
    obtain⟨g',h5,h6,h7⟩:=hw.new_row (n:=n) (cs:=Ak ((parts.toList.map fun p=>(p.1,ev e p.2)).map (·.2))) (cur:=arr) (e:=el) (sz:=sz) (cap:=n) (fr:=(0,0)) hsz hfl (Nat.le_refl _) hmx has (Nat.le_refl _) arr.toList (by simpa using h2) (by rw[List.take_of_length_le (by simp)])
    refine⟨.slice (some ⟨w.heap.size,0,none⟩) n n,_,g',?_,h5,h7,h6⟩
    have h1':Instr.fill (fun k=>some (k*sz,sz)) ((Array.range (n*sz)).map (zero[· % zero.size]!)) ((parts.map fun(i,x)=>(i,ρ x)).toList)=some arr:=by
     rw[←h1];simp
    unfold execOp;simp only[ho,Instr.buildSlice,Sem.run_bind,run_underlying hu,Result.andThen_ok,run_sizeOf hse];have hnn:¬n*sz>2^24:=by omega
    simp only[if_neg hnn];by_cases h0:n*sz=0
    ·rw[if_pos h0]at hzero
     subst hzero;simp only[if_pos h0,Sem.run_bind,Sem.run_pure,Result.andThen_ok,h1',newRow,newObj,Sem.run];rfl
    ·rw[if_neg h0]at hzero
     subst hzero;have hzv:(zeroValue el).run P w=.ok zv w:=by simp[zeroValue,typeInfo,hz1,hz2]
     simp only[if_neg h0,Sem.run_bind,hzv,Sem.run_pure,Result.andThen_ok,h1',newRow,newObj,Sem.run];rfl
   ·cases h
  ·cases h
def keeps(Kp:List Nat)(S S':Ae):Prop:=∀k∈Kp,S'[k]? = S[k]?
inductive K4 where
 |rp|wr|al|ot
def Gj(lp wp:List Nat)(d:Option Nat)(op:Op):K4:=match d with
 | some d=>if lp.contains d then .rp else if wp.contains d then(match op with
   |.call c=>(match c.callee with
    |.builtin _=>.al
    |_=>.wr)
   |.buildSlice .. =>.al
   |_=>.wr)else match op with
  |.alloc _=>.al
  |_=>.ot
 |none=>.ot
inductive K5 where
 |rp|wr|ap|ot
def I9(lp wp:List Nat)(d:Option Nat)(op:Op):K5:=match Gj lp wp d op with
 |.rp=>.rp
 |.wr=>.wr
 |.al=>(match op with
  |.call _=>.ap
  |.buildSlice .. =>.ap
  |_=>.ot)
 |.ot=>.ot
def Cf(P:Program)(Kp lp wp:List Nat)(cls:Op→Cls)(o:Oper)(e:Af)(S:Ae)(v:AV)(S':Ae):Prop:=
 match Gj lp wp o.dst o.op with
 |.rp=>S'=S ∧ ∃k∈Kp,∀S2:Ae,S2[k]? = S[k]? → AR P o e S2 v S2
 |.wr=>S'.length=S.length∧keeps Kp S S' ∧ ∀R,AR P o e (S++R) v (S'++R)
 |.al=>(∃z,S'=S++[z] ∧ ∀S2:Ae,S2.length=S.length→AR P o e S2 v (S2++[z]))∧keeps Kp S S'
 |.ot=>CE P (cls o.op) o e S v S'∧keeps Kp S S'
theorem Cf.does{P:Program}{Kp lp wp:List Nat}{cls:Op→Cls}{o:Oper}{e:Af}{S S':Ae}{v:AV}(h:Cf P Kp lp wp cls o e S v S'):AR P o e S v S':=by
 unfold Cf at h;split at h
 ·obtain⟨rfl,k,_,h⟩:=h;exact h _ rfl
 ·have :=h.2.2 [];simpa using this
 ·obtain⟨⟨z,rfl,h⟩,_⟩:=h;exact h _ rfl
 ·exact h.1.does
theorem Cf.keeps{P:Program}{Kp lp wp:List Nat}{cls:Op→Cls}{o:Oper}{e:Af}{S S':Ae}{v:AV}(h:Cf P Kp lp wp cls o e S v S'):keeps Kp S S':=by
 unfold Cf at h;split at h
 ·obtain⟨rfl,_⟩:=h;exact fun _ _=>rfl
 ·exact h.2.1
 ·exact h.2
 ·exact h.2
theorem Cf.put{P:Program}{Kp lp wp:List Nat}{cls:Op→Cls}{o:Oper}{e:Af}{S S':Ae}{v:AV}{ops:Array Oper}{dst:Option Nat}{u:AV}(h:∀d,dst=some d→d∉o.looksAt ops):Cf P Kp lp wp cls o (Pe.put e dst u) S v S'↔Cf P Kp lp wp cls o e S v S':=by
 unfold Cf;split
 ·exact and_congr Iff.rfl (exists_congr fun k=>and_congr Iff.rfl (forall_congr' fun S2=>imp_congr Iff.rfl (AR.put h)))
 ·exact and_congr Iff.rfl (and_congr Iff.rfl (forall_congr' fun R=>AR.put h))
 ·exact and_congr (exists_congr fun z=>and_congr Iff.rfl (forall_congr' fun S2=>imp_congr Iff.rfl (AR.put h))) Iff.rfl
 ·exact and_congr (CE.put h) Iff.rfl
def Ja(lp wp:List Nat)(cls:Op→Cls)(ops:Array Oper)(x y:Oper):Bool:=
 x.apart ops y&&(match Gj lp wp x.dst x.op,Gj lp wp y.dst y.op with
  |.rp,_=>true
  |_,.rp=>true
  |.wr,.al=>true
  |.wr,.ot=>(match cls y.op with |.free=>true|_=>false)
  |.al,.ot=>(match cls y.op with |.free=>true|_=>false)
  |.ot,.wr=>(match cls x.op with |.free=>true|_=>false)
  |.ot,.al=>(match cls x.op with |.free=>true|.read=>true|_=>false)
  |.ot,.ot=>(match cls x.op,cls y.op with
   |.free,_=>true
   |_,.free=>true
   |.read,.read=>true
   |.read,.fresh=>true
   |_,_=>false)
  |_,_=>false)
theorem Cf.swap{P:Program}{Kp lp wp:List Nat}{cls:Op→Cls}{ops:Array Oper}{oi oj:Oper}{e:Af}{S Si Sj:Ae}{v u:AV}(hap:Ja lp wp cls ops oi oj=true)(hi:Cf P Kp lp wp cls oi e S v Si)(hj:Cf P Kp lp wp cls oj e Si u Sj):
  ∃Sm,Cf P Kp lp wp cls oj e S u Sm∧Cf P Kp lp wp cls oi e Sm v Sj:=by
 have hki:=hi.keeps;have hkj:=hj.keeps;simp only[Ja,Bool.and_eq_true]at hap;have hcls:=hap.2;unfold Cf at hi hj ⊢;cases hri:Gj lp wp oi.dst oi.op with
 |rp=>
  simp only[hri]at hi hj ⊢;obtain⟨rfl,k,hk,hi⟩:=hi;exact⟨Sj,hj,rfl,k,hk,fun S2 h2=>hi S2 (h2.trans (hkj k hk))⟩
 | wr=>
  cases hrj:Gj lp wp oj.dst oj.op with
  |rp=>
   simp only[hri,hrj]at hi hj ⊢;obtain⟨rfl,k,hk,hj⟩:=hj;exact⟨S,⟨rfl,k,hk,fun S2 h2=>hj S2 (h2.trans (hki k hk).symm)⟩,hi⟩
  |wr=>rw[hri,hrj]at hcls;cases hcls
  | al=>
   simp only[hri,hrj]at hi hj ⊢;obtain⟨hl,_,hi⟩:=hi;obtain⟨⟨z,rfl,hj⟩,_⟩:=hj;have h1:Pe.keeps Kp S (S++[z]):=fun k hk=>by
    have h1:=hkj k hk;rcases Nat.lt_trichotomy k S.length with hlt|heq|hgt
    ·rw[List.getElem?_append_left hlt]
    ·exfalso
     rw[heq,←hl,List.getElem?_append_right (Nat.le_refl _),Nat.sub_self,List.getElem?_eq_none (Nat.le_refl _)]at h1
     cases h1
    ·rw[List.getElem?_eq_none (by simp;omega),List.getElem?_eq_none (by omega)]
   have hS:Pe.keeps Kp S (S++[z])∧Pe.keeps Kp (S++[z]) (Si++[z]):=⟨h1,fun k hk=>by rw[hkj k hk,hki k hk,h1 k hk]⟩
   refine⟨S++[z],⟨⟨z,rfl,fun S2 h2=>hj S2 (by omega)⟩,hS.1⟩,by simp[hl],hS.2,fun R=>?_⟩
   rw[List.append_assoc,List.append_assoc];exact hi _
  | ot=>
   simp only[hri,hrj]at hi hj hcls ⊢;obtain⟨hl,hk,hi⟩:=hi;cases hcj:cls oj.op with
   |free=>
    rw[hcj]at hj;obtain⟨⟨rfl,hj⟩,_⟩:=hj;exact⟨S,⟨⟨rfl,hj⟩,fun _ _=>rfl⟩,hl,hk,hi⟩
   |read=>rw[hcj]at hcls;cases hcls
   |fresh=>rw[hcj]at hcls;cases hcls
   |write=>rw[hcj]at hcls;cases hcls
 | al=>
  cases hrj:Gj lp wp oj.dst oj.op with
  |rp=>
   simp only[hri,hrj]at hi hj ⊢;obtain⟨rfl,k,hk,hj⟩:=hj;exact⟨S,⟨rfl,k,hk,fun S2 h2=>hj S2 (h2.trans (hki k hk).symm)⟩,hi⟩
  |wr=>rw[hri,hrj]at hcls;cases hcls
  |al=>rw[hri,hrj]at hcls;cases hcls
  | ot=>
   simp only[hri,hrj]at hi hj hcls ⊢;cases hcj:cls oj.op with
   |free=>
    rw[hcj]at hj;obtain⟨⟨rfl,hj⟩,_⟩:=hj;exact⟨S,⟨⟨rfl,hj⟩,fun _ _=>rfl⟩,hi⟩
   |read=>rw[hcj]at hcls;cases hcls
   |fresh=>rw[hcj]at hcls;cases hcls
   |write=>rw[hcj]at hcls;cases hcls
 | ot=>
  cases hrj:Gj lp wp oj.dst oj.op with
  |rp=>
   simp only[hri,hrj]at hi hj ⊢;obtain⟨rfl,k,hk,hj⟩:=hj;exact⟨S,⟨rfl,k,hk,fun S2 h2=>hj S2 (h2.trans (hki k hk).symm)⟩,hi⟩
  | wr=>
   simp only[hri,hrj]at hi hj hcls ⊢;cases hci:cls oi.op with
   |free=>
    rw[hci]at hi;obtain⟨⟨rfl,hi⟩,_⟩:=hi;exact⟨Sj,hj,⟨rfl,hi⟩,fun _ _=>rfl⟩
   |read=>rw[hci]at hcls;cases hcls
   |fresh=>rw[hci]at hcls;cases hcls
   |write=>rw[hci]at hcls;cases hcls
  | al=>
   simp only[hri,hrj]at hi hj hcls ⊢;cases hci:cls oi.op with
   |free=>
    rw[hci]at hi;obtain⟨⟨rfl,hi⟩,_⟩:=hi;exact⟨Sj,hj,⟨rfl,hi⟩,fun _ _=>rfl⟩
   |read=>
    rw[hci]at hi;obtain⟨⟨rfl,hi⟩,_⟩:=hi;obtain⟨⟨z,rfl,hj⟩,hk⟩:=hj;exact⟨_,⟨⟨z,rfl,hj⟩,hk⟩,⟨rfl,fun R'=>by rw[List.append_assoc];exact hi _⟩,fun _ _=>rfl⟩
   |fresh=>rw[hci]at hcls;cases hcls
   |write=>rw[hci]at hcls;cases hcls
  | ot=>
   simp only[hri,hrj]at hi hj hcls ⊢;obtain⟨hi,_⟩:=hi;obtain⟨hj,_⟩:=hj;cases hci:cls oi.op with
   |free=>
    rw[hci]at hi;obtain⟨rfl,hi⟩:=hi;exact⟨Sj,⟨hj,hkj⟩,⟨rfl,hi⟩,fun _ _=>rfl⟩
   | read=>
    rw[hci]at hi;obtain⟨rfl,hi⟩:=hi;cases hcj:cls oj.op with
    |free=>
     rw[hcj]at hj;obtain⟨rfl,hj⟩:=hj;exact⟨_,⟨⟨rfl,hj⟩,hkj⟩,⟨rfl,hi⟩,fun _ _=>rfl⟩
    |read=>
     rw[hcj]at hj;obtain⟨rfl,hj⟩:=hj;exact⟨_,⟨⟨rfl,hj⟩,hkj⟩,⟨rfl,hi⟩,fun _ _=>rfl⟩
    |fresh=>
     rw[hcj]at hj;obtain⟨⟨R,rfl⟩,hj⟩:=hj;exact⟨_,⟨⟨⟨R,rfl⟩,hj⟩,hkj⟩,⟨rfl,fun R'=>by rw[List.append_assoc];exact hi (R++R')⟩,fun _ _=>rfl⟩
    |write=>rw[hci,hcj]at hcls;cases hcls
   | fresh=>
    rw[hci]at hi;cases hcj:cls oj.op with
    |free=>
     rw[hcj]at hj;obtain⟨rfl,hj⟩:=hj;exact⟨_,⟨⟨rfl,hj⟩,fun _ _=>rfl⟩,hi,hki⟩
    |read=>rw[hci,hcj]at hcls;cases hcls
    |fresh=>rw[hci,hcj]at hcls;cases hcls
    |write=>rw[hci,hcj]at hcls;cases hcls
   | write=>
    rw[hci]at hi;cases hcj:cls oj.op with
    |free=>
     rw[hcj]at hj;obtain⟨rfl,hj⟩:=hj;exact⟨_,⟨⟨rfl,hj⟩,fun _ _=>rfl⟩,hi,hki⟩
    |read=>rw[hci,hcj]at hcls;cases hcls
    |fresh=>rw[hci,hcj]at hcls;cases hcls
    |write=>rw[hci,hcj]at hcls;cases hcls
section
variable {P:Program} {N N0:Nat} {w0:World} {g0:Gh} {pf rf:List FuncId} {Kp lp wp:List Nat}
def xOp4(P:Program)(Kp lp wp:List Nat)(cls:Op→Cls)(ops:Array Oper)(i:Nat)(K:Af→Ae→Prop)(e:Af)(S:Ae):Prop:=
 match ops[i]? with
 |none=>K e S
 |some o=>match Cp ops o e with
  |some true=>∃v S',Cf P Kp lp wp cls o e S v S'∧K (Pe.put e o.dst v) S'
  |some false=>K (Pe.put e o.dst (.tup [])) S
  |none=>False
theorem Zb1{cls:Op→Cls}{ops:Array Oper}{i:Nat}{K K':Af→Ae→Prop}{e:Af}{S:Ae}(h:∀e S,K e S→K' e S)(hh:xOp4 P Kp lp wp cls ops i K e S):xOp4 P Kp lp wp cls ops i K' e S:=by
 unfold xOp4 at *;split
 ·rename_i ho;simp only[ho]at hh;exact h _ _ hh
 ·rename_i o ho
  simp only[ho]at hh;split
  ·rename_i hw;simp only[hw]at hh;obtain⟨v,S',h1,h2⟩:=hh;exact⟨v,S',h1,h _ _ h2⟩
  ·rename_i hw;simp only[hw]at hh;exact h _ _ hh
  ·rename_i hw;simp only[hw]at hh
def My(P:Program)(Kp lp wp:List Nat)(cls:Op→Cls)(md:Region.Mode)(ops:Array Oper)(Q:Af→Ae→Prop):Nat→Array Bool→Af→Ae→Prop
 |0,listed,e,S=>Region.ready md ops listed=[]∧Q e S
 |fuel+1,listed,e,S=>
  (Region.ready md ops listed=[]→Q e S) ∧
  ∀i∈Region.ready md ops listed,xOp4 P Kp lp wp cls ops i (My P Kp lp wp cls md ops Q fuel (listed.setIfInBounds i true)) e S
theorem N9{ro:Option Nat}{cls:Op→Cls}{md:Region.Mode}{ops:Array Oper}(hds:D3 N ops=true){Q:Af→Ae→Prop}{Q':Exit→Act→World→Prop}(hQ:∀e S a w,AP N w0 g0 e S a w→Q e S→Q' .normal a w):
  ∀(fuel:Nat) (listed:Array Bool) (e:Af) (S:Ae) (a:Act) (w:World),AP N w0 g0 e S a w→My P Kp lp wp cls md ops Q fuel listed e S→wpAnyIn (wR ro) 0 P md ops Q' fuel listed a w
 |0,_,e,S,a,w,hc,h=>⟨h.1,hQ e S a w hc h.2⟩
 | fuel+1,listed,e,S,a,w,hc,h=>⟨fun h0=>hQ e S a w hc (h.1 h0),fun i hi=>by
  have hx:=h.2 i hi;unfold xOp4 at hx;unfold wpOpIn;split
  ·rename_i ho;simp only[ho]at hx;exact N9 hds hQ fuel _ e S a w hc hx
  ·rename_i o ho
   simp only[ho]at hx;have hd:=PG hds ho;have her:∃g,CZ w g e a:=by obtain⟨_,_,g,_,h4,_⟩:=hc;exact⟨g,h4⟩
   obtain⟨g,her⟩:=her;split at hx
   ·rename_i hw
    rw[Jr her hw];obtain⟨v,S',h1,h2⟩:=hx;simp only[if_true];exact hc.does hd h1.does (fun a' w' hc'=>N9 hds hQ fuel _ _ _ a' w' hc' h2) ro
   ·rename_i hw
    rw[Jr her hw];simp only[Bool.false_eq_true,if_false];exact⟨fun _ _=>trivial,N9 hds hQ fuel _ _ _ _ w (hc.skip hd) hx⟩
   ·exact hx.elim⟩
def Mq(P:Program)(Kp lp wp:List Nat)(cls:Op→Cls)(ops:Array Oper)(o:Oper)(e:Af)(S:Ae)(v:AV)(S':Ae):Prop:=
 (Cp ops o e=some true∧Cf P Kp lp wp cls o e S v S')∨(Cp ops o e=some false∧v=.tup []∧S'=S)
theorem Mq.xOp4{cls:Op→Cls}{ops:Array Oper}{i:Nat}{o:Oper}{e:Af}{S S':Ae}{v:AV}(hi:ops[i]? = some o)(hy:Mq P Kp lp wp cls ops o e S v S'){K:Af→Ae→Prop}(h:K (Pe.put e o.dst v) S'):xOp4 P Kp lp wp cls ops i K e S:=by
 unfold Pe.xOp4;simp only[hi];rcases hy with⟨hw,hx⟩|⟨hw,rfl,rfl⟩
 ·simp only[hw];exact⟨v,S',hx,h⟩
 ·simp only[hw];exact h
theorem ZbZ{cls:Op→Cls}{ops:Array Oper}{i:Nat}{o:Oper}{e:Af}{S:Ae}{K:Af→Ae→Prop}(hi:ops[i]? = some o)(h:xOp4 P Kp lp wp cls ops i K e S):∃v S',Mq P Kp lp wp cls ops o e S v S'∧K (Pe.put e o.dst v) S':=by
 unfold xOp4 at h;simp only[hi]at h;split at h
 ·rename_i hw;obtain⟨v,S',h1,h2⟩:=h;exact⟨v,S',.inl ⟨hw,h1⟩,h2⟩
 ·rename_i hw;exact⟨.tup [],S,.inr ⟨hw,rfl,rfl⟩,h⟩
 ·exact h.elim
theorem Zb0{cls:Op→Cls}{ops:Array Oper}{j:Nat}{oi oj:Oper}{v:AV}{e:Af}{S Si:Ae}(hj:ops[j]? = some oj)(hap:Ja lp wp cls ops oi oj=true){K:Af→Ae→Prop}
  (hy:Mq P Kp lp wp cls ops oi e S v Si)(h:xOp4 P Kp lp wp cls ops j K (Pe.put e oi.dst v) Si):
  xOp4 P Kp lp wp cls ops j (fun e' S'=>∃Si',Mq P Kp lp wp cls ops oi e' S' v Si'∧K (Pe.put e' oi.dst v) Si') e S:=by
 have hap0:=hap;simp only[Ja,Bool.and_eq_true]at hap;obtain⟨h1,h2,h3⟩:=Oper.apart_spec hap.1;have keep:∀u,Cp ops oi (Pe.put e oj.dst u)=Cp ops oi e:=fun u=>P4 h3
 unfold xOp4 at *;simp only[hj]at *;rw[P4 h1]at h;split
 ·rename_i hw
  simp only[hw]at h;obtain⟨u,Sj,hu,hn⟩:=h;rw[Cf.put h1]at hu;rcases hy with⟨hwi,hx⟩|⟨hwi,rfl,rfl⟩
  ·obtain⟨Sm,a1,a2⟩:=Cf.swap hap0 hx hu
   exact⟨u,Sm,a1,Sj,.inl ⟨by rw[keep];exact hwi,(Cf.put h3).2 a2⟩,by rw[←GP e v u h2];exact hn⟩
  ·exact⟨u,Sj,hu,Sj,.inr ⟨by rw[keep];exact hwi,rfl,rfl⟩,by rw[←GP e _ u h2];exact hn⟩
 ·rename_i hw
  simp only[hw]at h;refine⟨Si,?_,by rw[←GP e v _ h2];exact h⟩
  rcases hy with⟨hwi,hx⟩|⟨hwi,rfl,rfl⟩
  ·exact .inl ⟨by rw[keep];exact hwi,(Cf.put h3).2 hx⟩
  ·exact .inr ⟨by rw[keep];exact hwi,rfl,rfl⟩
 ·rename_i hw
  simp only[hw]at h
def C0(P:Program)(Kp lp wp:List Nat)(cls:Op→Cls)(ops:Array Oper)(Q:Af→Ae→Prop):List Oper→Af→Ae→Prop
 |[],e,S=>Q e S
 |o::rest,e,S=>match Cp ops o e with
  |some true=>∃v S',Cf P Kp lp wp cls o e S v S'∧C0 P Kp lp wp cls ops Q rest (Pe.put e o.dst v) S'
  |some false=>C0 P Kp lp wp cls ops Q rest (Pe.put e o.dst (.tup [])) S
  |none=>False
def SC(lp wp:List Nat)(cls:Op→Cls)(md:Region.Mode)(ops:Array Oper)(listed:Array Bool)(k:Nat):Bool:=
 match ops[k]? with
 |none=>false
 |some ok=>(List.range ops.size).all fun j=>
  match ops[j]? with
  |none=>true
  |some oj=>j==k||listed.getD j true||CJ md ops k 8 j||Ja lp wp cls ops ok oj
theorem ZhO{cls:Op→Cls}{md:Region.Mode}{ops:Array Oper}{listed:Array Bool}{k:Nat}{ok:Oper}(hk:ops[k]? = some ok)(h:SC lp wp cls md ops listed k=true):
  ∀(j:Nat) oj,ops[j]? = some oj→j≠k→listed.getD j true=false→(∀n,CJ md ops k n j=false)→Ja lp wp cls ops ok oj=true:=by
 intro j oj hj hne hun hno;unfold SC at h;rw[hk]at h;simp only at h
 have hlt:j<ops.size:=(Array.getElem?_eq_some_iff.1 hj).1
 have h1:=(List.all_eq_true.1 h) j (List.mem_range.2 hlt);rw[hj]at h1;simp only[Bool.or_eq_true,beq_iff_eq]at h1;rcases h1 with((h1|h1)|h1)|h1
 ·exact absurd h1 hne
 ·rw[hun]at h1;cases h1
 ·rw[hno 8]at h1;cases h1
 ·exact h1
theorem Zb9{cls:Op→Cls}{md:Region.Mode}{ops:Array Oper}{Q:Af→Ae→Prop}{i:Nat}{oi:Oper}{v:AV}(hi:ops[i]? = some oi):
  ∀(fuel:Nat) (listed:Array Bool) (e:Af) (S Si:Ae),
   (∀n j,CJ md ops i n j=true→listed.getD j true=false) →
   (∀(j:Nat) oj,ops[j]? = some oj→j≠i→listed.getD j true=false→(∀n,CJ md ops i n j=false)→Ja lp wp cls ops oi oj=true) →
   i∈Region.ready md ops listed→Mq P Kp lp wp cls ops oi e S v Si →
   My P Kp lp wp cls md ops Q fuel (listed.setIfInBounds i true) (Pe.put e oi.dst v) Si→My P Kp lp wp cls md ops Q (fuel+1) listed e S:=by
 intro fuel;induction fuel with
 | zero=>
  intro listed e S Si _ _ hr hy H;refine⟨fun h=>(by rw[h]at hr;cases hr),fun j hj=>?_⟩
  by_cases hji:j=i
  ·subst hji;exact hy.xOp4 hi H
  ·have :=ready_mono hj hji
   rw[H.1]at this;cases this
 | succ fuel ih=>
  intro listed e S Si hinv hfree hr hy H;refine⟨fun h=>(by rw[h]at hr;cases hr),fun j hj=>?_⟩
  by_cases hji:j=i
  ·subst hji;exact hy.xOp4 hi H
  ·have h1:=H.2 j (ready_mono hj hji)
   have hnd:=Y3 hinv hj hji;obtain⟨hjun,oj,hoj,hall⟩:=mem_ready.1 hj;have h2:=Zb0 hoj (hfree j oj hoj hji hjun hnd) hy h1;have hinv':∀n k,CJ md ops i n k=true→(listed.setIfInBounds j true).getD k true=false:=fun n k hk=>by
    have hjk:j≠k:=fun e=>by rw[←e,hnd n]at hk;cases hk
    rw[getD_set_ne true hjk];exact hinv n k hk
   have hfree':∀(k:Nat) ok,ops[k]? = some ok→k≠i→(listed.setIfInBounds j true).getD k true=false →
     (∀n,CJ md ops i n k=false)→Ja lp wp cls ops oi ok=true:=fun k ok hk hki hun hno=>by
    refine hfree k ok hk hki ?_ hno
    by_cases hjk:j=k
    ·subst hjk;exact hjun
    ·rw[getD_set_ne true hjk]at hun;exact hun
   refine Zb1 (fun e' S' h3=>?_) h2
   obtain⟨Si',h3,h4⟩:=h3;refine ih (listed.setIfInBounds j true) e' S' Si' hinv' hfree' (ready_mono hr (Ne.symm hji)) h3 ?_
   rw[Array.setIfInBounds_comm _ _ hji];exact h4
def M9(lp wp:List Nat)(cls:Op→Cls)(md:Region.Mode)(ops:Array Oper):List Nat→Array Bool→Bool
 |[],listed=>(Region.ready md ops listed).isEmpty
 |k::r,listed=>(Region.ready md ops listed).contains k&&SC lp wp cls md ops listed k&&M9 lp wp cls md ops r (listed.setIfInBounds k true)
def M8(lp wp:List Nat)(cls:Op→Cls)(ops:Array Oper)(ord:List Nat):Bool:=ord.length==ops.size&&M9 lp wp cls .any ops ord (Array.replicate ops.size false)
theorem Uk{cls:Op→Cls}{md:Region.Mode}{ops:Array Oper}{Q:Af→Ae→Prop}:∀(l:List Nat) (listed:Array Bool) (e:Af) (S:Ae),KC md ops listed →
  M9 lp wp cls md ops l listed=true→C0 P Kp lp wp cls ops Q (l.filterMap fun i=>ops[i]?) e S→My P Kp lp wp cls md ops Q l.length listed e S
 |[],_,_,_,_,hB,h=>⟨by simpa[M9] using hB,h⟩
 |k::l,listed,e,S,hc,hB,h=>by
  simp only[M9,Bool.and_eq_true]at hB;obtain⟨⟨hr,hf⟩,hB'⟩:=hB;have hr:k∈Region.ready md ops listed:=by simpa using hr
  obtain⟨hun,o,h0,_⟩:=mem_ready.1 hr;rw[List.filterMap_cons,h0]at h;have hst:xOp4 P Kp lp wp cls ops k (C0 P Kp lp wp cls ops Q (l.filterMap fun i=>ops[i]?)) e S:=by unfold xOp4;simp only[h0];exact h
  obtain⟨v,S',hy,hK⟩:=ZbZ h0 hst;exact Zb9 h0 l.length listed e S S' (Y2 hc hun) (ZhO h0 hf) hr hy (Uk l _ _ _ (Zn hc hr) hB' hK)
theorem Q9{ro:Option Nat}{cls:Op→Cls}{ops:Array Oper}{ord:List Nat}{id:Nat}{Q:Af→Ae→Prop}{Q':Exit→Act→World→Prop}{e:Af}{S:Ae}{a:Act}{w:World}(hm:P.follows .mixedOrders=true)(hB:M8 lp wp cls ops ord=true)(hds:D3 N ops=true)
  (hQ:∀e S a w,AP N w0 g0 e S a w→Q e S→Q' .normal a w)(hc:AP N w0 g0 e S a w)(h:C0 P Kp lp wp cls ops Q (ord.filterMap fun i=>ops[i]?) e S):(Code.region id ops true).wpIn (wR ro) 0 P Q' a w:=by
 refine wpIn_region_any hm (N9 (Kp:=Kp) (lp:=lp) (wp:=wp) (cls:=cls) hds hQ _ _ e S a _ (hc.draw _) ?_)
 simp only[M8,Bool.and_eq_true,beq_iff_eq]at hB;have h0:KC .any ops (Array.replicate ops.size false):=fun j oj hj hl=>by
  have hlt:j<ops.size:=(Array.getElem?_eq_some_iff.1 hj).1
  simp[hlt]at hl
 have :=Uk (md:=.any) ord (Array.replicate ops.size false) e S h0 hB.2 h;rw[hB.1]at this;exact this
end
inductive CD where
 |of (c:CC)|seq (a b:CD)|cond (c:Operand) (t f:CD)|block (id:Nat) (b:CD)|loop (b:CD)|spec (Kp lp wp:List Nat) (l:List AO)|weak (c:CD)|raw (ops:Array Oper)
def TW(N0:Nat)(e:Af)(S:Ae)(K:Af→Ae→Prop):Prop:=∃e' S',Aq N0 e S e' S'∧K e' S'
theorem KL{N0:Nat}{e:Af}{S:Ae}{K:Af→Ae→Prop}(h:K e S):TW N0 e S K:=⟨e,S,Aq.refl N0 e S,h⟩
def JS(Kp:List Nat)(op:Op)(e:Af):Bool:=match op with
 |.load _ x=>(match ev e x with
  |.ptr k _=>Kp.contains k
  |.pst _ _=>!Kp.isEmpty
  |_=>false)
 |_=>false
def Zk8(P:Program)(op:Op)(e:Af)(S:Ae)(v:AV)(S':Ae):Prop:=S'.length=S.length∧match op with
 |.call c=>(match c.callee with
  |.value (.func f)=>∀R,AC P f ((c.args.toList.map (ev e)).map AV.wk) (S++R) v (S'++R)
  |_=>False)
 |_=>False
def Mt(P:Program)(op:Op)(e:Af)(S:Ae):Option (AV×SObj):=match op with
 | .call c=>(match c.callee with
  |.builtin .append=>(match c.args.toList,c.argTypes.toList with
   |[x,y],[t,u]=>Ky P t u S (ev e x) (ev e y)
   |_,_=>none)
  |_=>none)
 |.buildSlice t n parts=>Mp P t S n (parts.toList.map fun p=>(p.1,ev e p.2))
 |_=>none
def DY(P:Program)(pf rf:List FuncId)(Kp lp wp:List Nat):List AO→Af→Ae→(Af→Ae→Prop)→Prop
 |[],e,S,K=>K e S
 |o::rest,e,S,K=>o.gd=none∧match I9 lp wp o.dst o.op with
  |.rp=>Bs P pf rf [⟨o.dst,o.op,none⟩] e S (fun e' S'=>JS Kp o.op e=true∧DY P pf rf Kp lp wp rest e' S' K)
  |.ap=>∃v z,Mt P o.op e S=some (v,z)∧keeps Kp S (S++[z])∧DY P pf rf Kp lp wp rest (put e o.dst v) (S++[z]) K
  |.wr=>∃v S',Zk8 P o.op e S v S'∧keeps Kp S S'∧DY P pf rf Kp lp wp rest (put e o.dst v) S' K
  |_=>Bs P pf rf [⟨o.dst,o.op,none⟩] e S (fun e' S'=>keeps Kp S S'∧DY P pf rf Kp lp wp rest e' S' K)
def B7(P:Program)(pf rf:List FuncId)(N0:Nat):CD→(AX→Af→Ae→Prop)→Af→Ae→Prop
 |.of c,Q,e,S=>AW P pf rf N0 c Q e S
 |.spec Kp lp wp l,Q,e,S=>DY P pf rf Kp lp wp l e S (Q .norm)
 |.weak c,Q,e,S=>TW N0 e S (B7 P pf rf N0 c Q)
 |.raw ops,Q,e,S=>D8 P (Bh P pf rf) .any ops (Q .norm) ops.size (Array.replicate ops.size false) e S
 |.seq a b,Q,e,S=>B7 P pf rf N0 a (CR Q (B7 P pf rf N0 b Q)) e S
 |.cond c t f,Q,e,S=>match ev e c with
  |.bo b=>D1 b (B7 P pf rf N0 t Q e S) (B7 P pf rf N0 f Q e S)
  |_=>False
 |.block id b,Q,e,S=>B7 P pf rf N0 b (EE id Q) e S
 |.loop b,Q,e,S=>GC N0 (B7 P pf rf N0 b) Q e S
def Cs(sp:List (Nat×(List Nat×List Nat×List Nat))):Code→Bool
 |.region id _ _=>(sp.lookup id).isSome
 |.seq a b=>Cs sp a||Cs sp b
 |.cond _ a b=>Cs sp a||Cs sp b
 |.block _ b=>Cs sp b
 |.loop b=>Cs sp b
 |_=>false
def RH(ord:List (Nat×List Nat))(id:Nat)(ops:Array Oper):List Nat:=match ord.lookup id with
 |none=>List.range ops.size
 |some l=>l
def Cv(sp:List (Nat×(List Nat×List Nat×List Nat)))(ord:List (Nat×List Nat))(c:Code):CD:=
 if !Cs sp c then .of (ER ord c)else match c with
 |.region id ops d=>(match sp.lookup id with
  |some (Kp,lp,wp)=>if lp.head?==some 1000000&&d then .weak (.raw ops)else if lp.isEmpty&&wp.isEmpty then .weak (.of (ER ord (.region id ops d)))else .weak (.spec Kp lp wp ((if d then(RH ord id ops).filterMap (fun i=>ops[i]?)else ops.toList).map (Dh ops)))
  |none=>.of .bad)
 |.seq a b=>.seq (Cv sp ord a) (Cv sp ord b)
 |.cond c a b=>.cond c (Cv sp ord a) (Cv sp ord b)
 |.block id b=>.block id (Cv sp ord b)
 |.loop b=>.loop (Cv sp ord b)
 |_=>.of .bad
def El(P:Program)(pf rf:List FuncId)(N:Nat)(sp:List (Nat×(List Nat×List Nat×List Nat)))(ord:List (Nat×List Nat)):Code→Bool
 |.region id ops draw=>(match sp.lookup id with
  |some (_,lp,wp)=>if lp.head?==some 1000000&&draw then D3 N ops else if lp.isEmpty&&wp.isEmpty then E6 P pf rf N ord (.region id ops draw)else D3 N ops&&(!draw||M8 lp wp (Bh P pf rf) ops (RH ord id ops))
  |none=>E6 P pf rf N ord (.region id ops draw))
 |.seq a b=>El P pf rf N sp ord a&&El P pf rf N sp ord b
 |.cond _ a b=>El P pf rf N sp ord a&&El P pf rf N sp ord b
 |.block _ b=>El P pf rf N sp ord b
 |.loop b=>El P pf rf N sp ord b
 |_=>true
section
variable {P:Program} {N N0:Nat} {w0:World} {g0:Gh} {pf rf:List FuncId} {sp:List (Nat×(List Nat×List Nat×List Nat))} {ord:List (Nat×List Nat)}
theorem Zia{c:Code}(h:Cs sp c=false):Cv sp ord c=.of (ER ord c):=by
 unfold Cv;rw[h];rfl
theorem Zh9{a b:Code}(h:Cs sp (.seq a b)=true):Cv sp ord (.seq a b)=.seq (Cv sp ord a) (Cv sp ord b):=by
 rw[Cv,h];rfl
theorem Zic{x:Operand}{a b:Code}(h:Cs sp (.cond x a b)=true):Cv sp ord (.cond x a b)=.cond x (Cv sp ord a) (Cv sp ord b):=by
 rw[Cv,h];rfl
theorem Zid{id:Nat}{b:Code}(h:Cs sp (.block id b)=true):Cv sp ord (.block id b)=.block id (Cv sp ord b):=by
 rw[Cv,h];rfl
theorem Zib{b:Code}(h:Cs sp (.loop b)=true):Cv sp ord (.loop b)=.loop (Cv sp ord b):=by
 rw[Cv,h];rfl
theorem Zjg:∀{c:Code},Cs sp c=false→El P pf rf N sp ord c=true→E6 P pf rf N ord c=true:=by
 intro c;induction c with
 |region id ops d=>
  intro h hk;simp only[Cs,Option.isSome_eq_false_iff,Option.isNone_iff_eq_none]at h;simpa only[El,h] using hk
 |seq a b iha ihb=>
  intro h hk;simp only[Cs,Bool.or_eq_false_iff]at h;simp only[El,E6,Bool.and_eq_true]at hk ⊢;exact⟨iha h.1 hk.1,ihb h.2 hk.2⟩
 |cond x a b iha ihb=>
  intro h hk;simp only[Cs,Bool.or_eq_false_iff]at h;simp only[El,E6,Bool.and_eq_true]at hk ⊢;exact⟨iha h.1 hk.1,ihb h.2 hk.2⟩
 |block id b ih=>intro h hk;exact ih (by simpa only[Cs] using h) (by simpa only[El] using hk)
 |loop b ih=>intro h hk;exact ih (by simpa only[Cs] using h) (by simpa only[El] using hk)
 |_=>intro _ _;rfl
theorem Mm{ro:Option Nat}(hm:P.follows .mixedOrders=true)(hN0:g0.nid=N0){c:Code}{Q:AX→Af→Ae→Prop}{e:Af}{S:Ae}{a:Act}{w:World}(hns:Cs sp c=false)(hok:El P pf rf N sp ord c=true)(hc:AP N w0 g0 e S a w)(h:B7 P pf rf N0 (Cv sp ord c) Q e S):c.wpIn (wR ro) 0 P (EW N w0 g0 Q) a w:=by
 rw[Zia hns]at h;exact Zbe hm hN0 c Q e S a w (Zjg hns hok) hc h
theorem Ziz{o:Oper}{t:TypeId}{x:Operand}{e:Af}{S:Ae}{v:AV}{Kp:List Nat}(ho:o.op=.load t x)(hv:D7 (AJ P t) S (ev e x)=some v)(hp:JS Kp o.op e=true):∃k∈Kp,∀S2:Ae,S2[k]? = S[k]? → AR P o e S2 v S2:=by
 rw[ho]at hp;unfold JS at hp;simp only at hp
 split at hp
 ·rename_i k off hx
  refine⟨k,by simpa using hp,fun S2 h2=>S9 ho ?_⟩
  rw[hx]at hv ⊢;unfold D7 at hv ⊢;split at hv
  ·rename_i hz he
   cases he
   simp only[h2];exact hv
  ·rename_i he;cases he
  ·rename_i he;cases he
  ·cases hv
 ·rename_i u off hx
  obtain⟨k,hk⟩:∃k,k∈Kp:=by
   cases Kp with
   |nil=>cases hp
   |cons k _=>exact⟨k,by simp⟩
  refine⟨k,hk,fun S2 _=>S9 ho ?_⟩
  rw[hx]at hv ⊢;cases hz:AJ P t with
  |none=>rw[hz]at hv;cases hv
  |some z=>rw[hz]at hv;exact hv
 ·cases hp
theorem HS{Kp lp wp:List Nat}{ops:Array Oper}{Q:Af→Ae→Prop}:∀(l:List Oper) (e:Af) (S:Ae),DY P pf rf Kp lp wp (l.map (Dh ops)) e S Q→C0 P Kp lp wp (Bh P pf rf) ops Q l e S
 |[],e,S,h=>h
 | o ::rest,e,S,h=>by
  simp only[List.map_cons,DY]at h;obtain⟨hgd,h⟩:=h;have hg:Cp ops o e=some true:=by
   unfold Dh at hgd;unfold Cp;cases hx:o.guard with
   |none=>rfl
   |some p=>obtain⟨j,want⟩:=p;rw[hx]at hgd;cases hgd
  have hop:(Dh ops o).op=o.op:=rfl;have hds:(Dh ops o).dst=o.dst:=rfl;rw[hop,hds]at h;unfold I9 at h;unfold C0;simp only[hg];unfold Cf;have one:∀K:Af→Ae→Prop,Bs P pf rf [⟨o.dst,o.op,none⟩] e S K→Bd P pf rf o.op e S (fun v S'=>K (put e o.dst v) S'):=fun K h=>by
   rw[Bs]at h;obtain⟨b,hb,h⟩:=C8 h;cases hb
   have h:=h.1 rfl;have e1:(fun v S'=>Bs P pf rf [] (put e o.dst v) S' K)=fun v S'=>K (put e o.dst v) S':=by funext v S';rw[Bs]
   rw[e1]at h;exact h
  cases hk:Gj lp wp o.dst o.op with
  | rp=>
   rw[hk]at h;simp only at h ⊢
   have h:=one _ h;cases hl:o.op with
   |load t x=>
    rw[hl]at h;unfold Bd at h;simp only at h
    obtain⟨v,hv,h1,h2⟩:=C8 h;rw[←hl]at h1;exact⟨v,S,⟨rfl,Ziz hl hv h1⟩,HS rest _ _ h2⟩
   |_=>
    exfalso;obtain⟨v,S',_,h2,_⟩:=N4 h;unfold JS at h2;rw[hl]at h2;cases h2
  | wr=>
   rw[hk]at h;simp only at h ⊢
   obtain⟨v,S',⟨h1,h2⟩,h3,h4⟩:=h;refine⟨v,S',⟨h1,h3,fun R=>?_⟩,HS rest _ _ h4⟩
   split at h2
   ·rename_i c ho
    split at h2
    ·rename_i f hf
     refine Ny (fa:=[]) (ca:=[]) ho hf rfl ?_
     simp only[List.nil_append,List.append_nil];exact(h2 R).weak
    ·exact h2.elim
   ·exact h2.elim
  | al =>
   rw[hk]at h;simp only at h ⊢
   cases hl:o.op with
   |alloc t=>
    rw[hl]at h;simp only at h
    rw[←hl]at h;have h:=one _ h;rw[hl]at h;unfold Bd at h;simp only at h
    obtain⟨z,hz,h1,h2⟩:=C8 h;refine⟨_,_,⟨⟨_,rfl,fun S2 h3=>?_⟩,h1⟩,HS rest _ _ h2⟩
    rw[←h3];exact Y0 hl hz
   | call c=>
    rw[hl]at h;simp only at h
    obtain⟨v,z,h1,h2,h3⟩:=h;unfold Mt at h1;simp only at h1
    split at h1
    ·rename_i hb
     split at h1
     ·rename_i x y t u hargs hts
      have hc:c={ callee:=.builtin .append,args:= #[x,y],argTypes:= #[t,u] }:=by
       cases c with |mk ce ar at_=>
       simp only at hb hargs hts
       rw[hb];congr 1
       ·exact Array.ext' hargs
       ·exact Array.ext' hts
      refine⟨_,_,⟨⟨_,rfl,fun S2 h4=>ZiI (by rw[hl,hc]) ?_⟩,h2⟩,HS rest _ _ h3⟩
      unfold Ky at h1 ⊢;rw[h4];exact h1
     ·cases h1
    ·cases h1
   |buildSlice t n parts=>
    rw[hl]at h;simp only at h
    obtain⟨v,z,h1,h2,h3⟩:=h;unfold Mt at h1;simp only at h1
    refine⟨_,_,⟨⟨_,rfl,fun S2 h4=>ZiA hl ?_⟩,h2⟩,HS rest _ _ h3⟩
    unfold Mp at h1 ⊢;rw[h4];exact h1
   | _=>
    exfalso;unfold Gj at hk;rw[hl]at hk;split at hk
    ·split at hk
     ·cases hk
     ·split at hk<;>cases hk
    ·cases hk
  |ot=>
   rw[hk]at h;simp only at h ⊢
   have h:=one _ h;obtain⟨v,S',h1,h3,h4⟩:=N4 h;exact⟨v,S',⟨h1,h3⟩,HS rest _ _ h4⟩
theorem Qj{ro:Option Nat}{Kp lp wp:List Nat}{cls:Op→Cls}{ops:Array Oper}{Q:Af→Ae→Prop}{Q':Exit→Act→World→Prop}(hds:D3 N ops=true)(hQ:∀e S a w,AP N w0 g0 e S a w→Q e S→Q' .normal a w):
  ∀(l:List Oper),(∀o∈l,∃i:Nat,ops[i]? = some o) → ∀(e:Af) (S:Ae) (a:Act) (w:World),AP N w0 g0 e S a w→C0 P Kp lp wp cls ops Q l e S→wpListIn (wR ro) 0 P ops Q' l a w
 |[],_,e,S,a,w,hc,h=>hQ e S a w hc h
 | o::l,hl,e,S,a,w,hc,h=>by
  obtain⟨i,hi⟩:=hl o (by simp)
  have hd:=PG hds hi;have her:∃g,CZ w g e a:=by obtain⟨_,_,g,_,h4,_⟩:=hc;exact⟨g,h4⟩
  obtain⟨g,her⟩:=her;unfold C0 at h;unfold wpListIn;split at h
  ·rename_i hw
   rw[Jr her hw];obtain⟨v,S',h1,h2⟩:=h;simp only[if_true];exact hc.does hd h1.does (fun a' w' hc'=>Qj hds hQ l (fun o ho=>hl o (by simp[ho])) _ _ a' w' hc' h2) ro
  ·rename_i hw
   rw[Jr her hw];simp only[Bool.false_eq_true,if_false];exact⟨fun _ _=>trivial,Qj hds hQ l (fun o ho=>hl o (by simp[ho])) _ _ _ w (hc.skip hd) h⟩
  ·exact h.elim
theorem Zlb{ro:Option Nat}(hm:P.follows .mixedOrders=true)(hN0:g0.nid=N0):∀(c:Code) (Q:AX→Af→Ae→Prop) (e:Af) (S:Ae) (a:Act) (w:World),El P pf rf N sp ord c=true→AP N w0 g0 e S a w→B7 P pf rf N0 (Cv sp ord c) Q e S→c.wpIn (wR ro) 0 P (EW N w0 g0 Q) a w:=by
 intro c;induction c with
 | region id ops draw=>
  intro Q e S a w hok hc h;cases hns:Cs sp (.region id ops draw)with
  |false=>exact Mm hm hN0 hns hok hc h
  | true=>
   simp only[Cs]at hns;obtain⟨⟨Kp,lp,wp⟩,hs⟩:=Option.isSome_iff_exists.1 hns;have hQ:∀e S a w,AP N w0 g0 e S a w→Q .norm e S→EW N w0 g0 Q .normal a w:=fun e S a w hc hq=>⟨e,S,hc,hq⟩
   simp only[El,hs]at hok;simp only[Cv,Cs,hs,Option.isSome_some,Bool.not_true,Bool.false_eq_true,if_false]at h;by_cases hraw:(lp.head?==some 1000000&&draw)=true
   ·rw[if_pos hraw]at h hok
    simp only[B7]at h;obtain⟨e1,S1,hwk,h⟩:=h;have hd:draw=true:=(Bool.and_eq_true_iff.1 hraw).2;subst hd;exact wpIn_region_any hm (IL ro (cls:=Bh P pf rf) hok hQ _ _ e1 S1 a _ ((hwk N w0 g0 a w hN0 hc).draw _) h)
   rw[if_neg hraw]at h hok;by_cases hem:(lp.isEmpty&&wp.isEmpty)=true
   ·rw[if_pos hem]at h hok
    simp only[B7]at h;obtain⟨e1,S1,hwk,h⟩:=h;exact Zbe hm hN0 _ Q e1 S1 a w hok (hwk N w0 g0 a w hN0 hc) h
   ·rw[if_neg hem]at h hok
    simp only[B7]at h;obtain⟨e1,S1,hwk,h⟩:=h;have hc1:=hwk N w0 g0 a w hN0 hc;simp only[Bool.and_eq_true]at hok;cases draw with
    |true=>
     simp only[if_true,Bool.not_true,Bool.false_or]at h hok;exact Q9 hm hok.2 hok.1 hQ hc1 (HS _ e1 S1 h)
    |false=>
     simp only[Bool.false_eq_true,if_false]at h;refine wpIn_region_list (Qj (cls:=Bh P pf rf) hok.1 hQ ops.toList (fun o ho=>?_) e1 S1 a w hc1 (HS _ e1 S1 h))
     obtain⟨i,hi⟩:=List.mem_iff_getElem?.1 ho;exact⟨i,by simpa using hi⟩
 | seq x y ihx ihy=>
  intro Q e S a w hok hc h;cases hns:Cs sp (.seq x y)with
  |false=>exact Mm hm hN0 hns hok hc h
  |true=>
   rw[Zh9 hns]at h;simp only[El,Bool.and_eq_true]at hok;simp only[B7]at h;refine wpIn_seq (Go.wpIn_mono (ihx _ e S a w hok.1 hc h) ?_)
   intro ex a' w' hq;cases ex with
   |normal=>obtain⟨e',S',hc',h'⟩:=hq;exact ihy Q e' S' a' w' hok.2 hc' h'
   |exit id=>exact hq
   |ret=>exact hq
   |_=>exact hq.elim
 | cond c x y ihx ihy=>
  intro Q e S a w hok hc h;cases hns:Cs sp (.cond c x y)with
  |false=>exact Mm hm hN0 hns hok hc h
  | true=>
   rw[Zic hns]at h;simp only[El,Bool.and_eq_true]at hok;simp only[B7]at h;split at h
   ·rename_i b hb
    have hcb:a.eval c=.bool b:=by
     obtain⟨_,_,g,_,h4,_⟩:=hc;have :=Ka h4 c;rw[hb]at this;cases hv:a.eval c<;>rw[hv]at this<;>cases this
     rfl
    refine wpIn_cond_split hcb (fun ht=>ihx Q e S a w hok.1 hc (h.1 ht)) (fun hf=>ihy Q e S a w hok.2 hc (h.2 hf))
   ·exact h.elim
 | block id c ih=>
  intro Q e S a w hok hc h;cases hns:Cs sp (.block id c)with
  |false=>exact Mm hm hN0 hns hok hc h
  | true=>
   rw[Zid hns]at h;simp only[B7]at h;refine wpIn_block (Go.wpIn_mono (ih _ e S a w hok hc h) ?_)
   intro ex a' w' hq;cases ex with
   |normal=>exact hq
   |exit i=>
    obtain⟨e',S',hc',h'⟩:=hq;simp only[EE]at h';simp only[Exit.inBlock];by_cases hi:i=id
    ·rw[if_pos hi]at h' ⊢;exact⟨e',S',hc',h'⟩
    ·rw[if_neg hi]at h' ⊢;exact⟨e',S',hc',h'⟩
   |ret=>exact hq
   |_=>exact hq.elim
 | loop c ih=>
  intro Q e S a w hok hc h;cases hns:Cs sp (.loop c)with
  |false=>exact Mm hm hN0 hns hok hc h
  | true=>
   rw[Zib hns]at h;simp only[B7]at h;obtain⟨I,⟨n,e',S',hwk,hI⟩,hround⟩:=h;refine MA (fun n a w=>∃e S,AP N w0 g0 e S a w∧I n e S) n ⟨e',S',hwk N w0 g0 a w hN0 hc,hI⟩ ?_
   rintro n a w ⟨e,S,hc,hI⟩
   refine Go.wpIn_mono (ih _ e S a w hok hc (hround n e S hI)) ?_
   intro ex a' w' hq;cases ex with
   |normal=>
    obtain⟨e1,S1,hc1,n',e2,S2,hlt,hwk',hI'⟩:=hq;exact⟨n',hlt,e2,S2,hwk' N w0 g0 a' w' hN0 hc1,hI'⟩
   |exit i=>exact hq
   |ret=>exact hq
   |_=>exact hq.elim
 |_=>
  intro Q e S a w hok hc h;exact Mm hm hN0 rfl hok hc h
end
section
variable {P:Program}
theorem AC.enter4{f:FuncId}{fn:Func}{c:Code}{args:List AV}{S S':Ae}{v:AV}(pf rf:List FuncId)(sp:List (Nat×(List Nat×List Nat×List Nat)))(ord:List (Nat×List Nat))(hf:P.funcs[f]? = some fn)(hb:fn.body=some c)(hname:fn.name ≠ "runtime.NumGoroutine")(hm:P.follows .mixedOrders=true)
  (hn:args.length≤fn.ntmps)(hok:El P pf rf fn.ntmps sp ord c=true)(h:B7 P pf rf S.length (Cv sp ord c) (Dw P fn.results.toList S.length v S') (BH args) S):AC P f args S v S':=by
 exact AC.of_wp hf hb hname hn fun w g a hg hc=>Zlb hm hg c _ (BH args) S a w hok hc h
end
section
variable (P:Program) (pf rf:List FuncId) (N0:Nat) (Q:AX→Af→Ae→Prop) (e:Af) (S:Ae) (K:Af→Ae→Prop)
theorem Za5(c:CC):B7 P pf rf N0 (.of c) Q e S=AW P pf rf N0 c Q e S:=rfl
theorem Za4(a b:CD):B7 P pf rf N0 (.seq a b) Q e S=B7 P pf rf N0 a (CR Q (B7 P pf rf N0 b Q)) e S:=rfl
theorem Za2(c:CD):B7 P pf rf N0 (.weak c) Q e S=TW N0 e S (B7 P pf rf N0 c Q):=rfl
theorem Za3(Kp lp wp:List Nat)(l:List AO):B7 P pf rf N0 (.spec Kp lp wp l) Q e S=DY P pf rf Kp lp wp l e S (Q .norm):=rfl
def TX(c:CD):Prop:=B7 P pf rf N0 c Q e S
theorem Za7(c:Operand)(t f:CD):B7 P pf rf N0 (.cond c t f) Q e S=NG (ev e c) (TX P pf rf N0 Q e S t) (TX P pf rf N0 Q e S f):=rfl
theorem Za1(c:CD):TX P pf rf N0 Q e S c=B7 P pf rf N0 c Q e S:=rfl
theorem Za8(id:Nat)(b:CD):B7 P pf rf N0 (.block id b) Q e S=B7 P pf rf N0 b (EE id Q) e S:=rfl
theorem Za6(b:CD):B7 P pf rf N0 (.loop b) Q e S=GC N0 (B7 P pf rf N0 b) Q e S:=rfl
theorem Zbn(Kp lp wp:List Nat):DY P pf rf Kp lp wp [] e S K=K e S:=rfl
end
def QO(P:Program)(pf rf:List FuncId)(K:Af→Ae→Prop)(Kp lp wp:List Nat)(op:Op)(rest:List AO)(e:Af)(e':Af)(S':Ae):Prop:=JS Kp op e=true∧DY P pf rf Kp lp wp rest e' S' K
def Ov(P:Program)(pf rf:List FuncId)(K:Af→Ae→Prop)(Kp lp wp:List Nat)(rest:List AO)(S:Ae)(e':Af)(S':Ae):Prop:=keeps Kp S S'∧DY P pf rf Kp lp wp rest e' S' K
section
variable {P:Program} {pf rf:List FuncId} {e e':Af} {S S':Ae} {K:Af→Ae→Prop} {Kp lp wp:List Nat} {rest:List AO}
theorem BJ{d:Option Nat}{op:Op}(h:Bs P pf rf [⟨d,op,none⟩] e S (QO P pf rf K Kp lp wp op rest e))(hk:I9 lp wp d op=.rp:=by rfl):DY P pf rf Kp lp wp (⟨d,op,none⟩::rest) e S K:=by
 refine⟨rfl,?_⟩
 show match I9 lp wp d op with
  |.rp=>_
  |.ap=>_
  |.wr=>_
  |_=>_
 rw[hk];exact h
theorem a4{d:Option Nat}{op:Op}(h:Bs P pf rf [⟨d,op,none⟩] e S (Ov P pf rf K Kp lp wp rest S))(hk:I9 lp wp d op=.ot:=by rfl):DY P pf rf Kp lp wp (⟨d,op,none⟩::rest) e S K:=by
 refine⟨rfl,?_⟩
 show match I9 lp wp d op with
  |.rp=>_
  |.ap=>_
  |.wr=>_
  |_=>_
 rw[hk];exact h
theorem p4{d:Option Nat}{op:Op}{v:AV}{z:SObj}(h:Mt P op e S=some (v,z))(h':DY P pf rf Kp lp wp rest (put e d v) (S++[z]) K)(hk:I9 lp wp d op=.ap:=by rfl)(hk':keeps Kp S (S++[z]):=by(intro k hk;simp only[List.mem_cons,List.not_mem_nil,or_false]at hk;first|(subst hk;rfl)|(rcases hk with rfl|rfl<;>rfl)|(rcases hk with rfl|rfl|rfl<;>rfl))):DY P pf rf Kp lp wp (⟨d,op,none⟩::rest) e S K:=by
 refine⟨rfl,?_⟩
 show match I9 lp wp d op with
  |.rp=>_
  |.ap=>_
  |.wr=>_
  |_=>_
 rw[hk];exact⟨v,z,h,hk',h'⟩
theorem k4(h:DY P pf rf Kp lp wp rest e' S' K)(hk:keeps Kp S S':=by(intro k hk;simp only[List.mem_cons,List.not_mem_nil,or_false]at hk;first|(subst hk;rfl)|(rcases hk with rfl|rfl<;>rfl)|(rcases hk with rfl|rfl|rfl<;>rfl))):Ov P pf rf K Kp lp wp rest S e' S':=⟨hk,h⟩
theorem GU{op:Op}(h:DY P pf rf Kp lp wp rest e' S' K)(hk:JS Kp op e=true:=by rfl):QO P pf rf K Kp lp wp op rest e e' S':=⟨hk,h⟩
end
set_option maxRecDepth 100000
theorem run4{A B:Prop}(h:B)(e:A=B:=by
  conv=>
   lhs
   (try simp only[P7,P9,Qb,Za1,GW,Hu])
   (try simp -implicitDefEqProofs (maxSteps:=4000000) (disch:=(first|omega|(simp only[List.length_append,List.length_cons,List.length_map,List.length_nil,List.length_take,List.length_drop];omega))) only[↓Za5,↓Za4,↓Za3,↓Za2,↓Za7,↓Za8,↓Za6,↓Zbn,↓Mw,Mx,Dk,↓reduceIte,Nat.reduceEqDiff,Nat.reduceAdd,Nat.reduceLT,Nat.reduceLeDiff,Nat.reduceMul,Nat.reduceSub,Int.reduceToNat,Int.reduceAdd,Int.reduceSub,Int.reduceMul,Int.reduceNeg,Int.reduceLE,Int.reduceLT,Int.reduceEq,Int.reduceBEq,Int.reduceBNe,Nat.reduceBEq,Nat.reduceBNe,EF,FC,G5,IA,Jx,Js,Iv,HL,IB,IH,II,IF,IG,Gz,D7,Iw,Jv,Jw,IE,ID,G4,Gy,DT,FP,Gg,I8,Ju,Iy,IC,Jy,GB,Fg,Ix,CB,Ic,apart,FB,Fy,FA,GD,HQ,F2,AV.wk,AV.wk2,AV.wk1,AV.cells,AV.solid,AV.ro,AV.ro1,←List.map_take,←List.map_drop,reduceCtorEq,Option.isNone_some,Option.isSome_none,Ls,Lr,Lh,KZ,KV,KU,KS,KR,KQ,KP,Lq,Lp,Lo,Ln,Lm,Ll,Lk,Lj,Li,Lg,Lf,Ld,Lc,Lb,La,KY,KX,KW])
   (try simp only[GW,Hu])):A:=e▸h
theorem runf4{F A B:Prop}(f:F)(h:B)(e:F→A=B:=by
  intro f;conv=>
   lhs
   (try simp only[P7,P9,Qb,Za1,GW,Hu])
   (try simp -implicitDefEqProofs (maxSteps:=4000000) (disch:=(first|omega|(simp only[List.length_append,List.length_cons,List.length_map,List.length_nil,List.length_take,List.length_drop];omega))) only[↓Za5,↓Za4,↓Za3,↓Za2,↓Za7,↓Za8,↓Za6,↓Zbn,↓Mw,Mx,Dk,↓reduceIte,Nat.reduceEqDiff,Nat.reduceAdd,Nat.reduceLT,Nat.reduceLeDiff,Nat.reduceMul,Nat.reduceSub,Int.reduceToNat,Int.reduceAdd,Int.reduceSub,Int.reduceMul,Int.reduceNeg,Int.reduceLE,Int.reduceLT,Int.reduceEq,Int.reduceBEq,Int.reduceBNe,Nat.reduceBEq,Nat.reduceBNe,EF,FC,G5,IA,Jx,Js,Iv,HL,IB,IH,II,IF,IG,Gz,D7,Iw,Jv,Jw,IE,ID,G4,Gy,DT,FP,Gg,I8,Ju,Iy,IC,Jy,GB,Fg,Ix,CB,Ic,apart,FB,Fy,FA,GD,HQ,F2,AV.wk,AV.wk2,AV.wk1,AV.cells,AV.solid,AV.ro,AV.ro1,←List.map_take,←List.map_drop,reduceCtorEq,Option.isNone_some,Option.isSome_none,Ls,Lr,Lh,KZ,KV,KU,KS,KR,KQ,KP,Lq,Lp,Lo,Ln,Lm,Ll,Lk,Lj,Li,Lg,Lf,Ld,Lc,Lb,La,KY,KX,KW,f])
   (try simp only[GW,Hu])):A:=e f▸h
end Pe
namespace Pe
open Go Go.RowKit
variable [Tab]
theorem WF.still{w:World}{g:Gh}{S:Ae}(h:WF w g S){l n:Nat}{o:SObj}{arr:Array Value}{T:TypeId}{fr:Nat×Nat}(hS:S[l]? = some o)(hown:g.own l (g.pl l))(hG:g.G (g.pl l)=0)(hh:w.heap[g.pl l]? = some (.cells arr T fr)):
  WF w { g with G:=fun x=>if x=g.pl l then n else g.G x } (S.set l .dead)∧Evo w g w { g with G:=fun x=>if x=g.pl l then n else g.G x }:=by
 have hlS:=(List.getElem?_eq_some_iff.1 hS).1
 have hln:l<g.nid:=by rw[h.nid];exact hlS
 let g':Gh:={ g with G:=fun x=>if x=g.pl l then n else g.G x }
 have hne:∀b,0<g.G b→b≠g.pl l:=fun b h e=>by rw[e,hG]at h;exact absurd h (Nat.lt_irrefl 0)
 have hle:Le w g w g':=⟨fun _ _ _ _ h=>h,fun b o v hb _=>by
  show o<(if b=g.pl l then n else g.G b)
  rw[if_neg (hne b (by omega))];exact hb,Nat.le_refl _,fun _ _=>⟨rfl,.inl ⟨rfl,rfl,rfl⟩⟩,fun b me c hg hm=>⟨by
  show 0<(if b=g.pl l then n else g.G b)
  rw[if_neg (hne b hg)];exact hg,hm⟩⟩
 refine⟨⟨by rw[List.length_set];exact h.nid,fun k o hk=>?_,h.disj,h.lt,h.tab.le hle⟩,⟨hle,rfl,rfl,rfl,Nat.le_refl _,fun _ _ _=>rfl,fun _ _ hk hb _=>⟨hk,hb⟩,fun b _ hno=>if_neg (fun e=>hno l hln (by rw[e];exact hown))⟩⟩
 by_cases hkl:k=l
 ·subst hkl;rw[List.getElem?_set_self hlS]at hk;cases hk;trivial
 ·rw[List.getElem?_set_ne (Ne.symm hkl)]at hk
  have hkn:k<g.nid:=by rw[h.nid];exact(List.getElem?_eq_some_iff.1 hk).1
  refine(h.obj k o hk).keep hle rfl rfl rfl rfl rfl (fun b hb'=>?_) (fun _ _=>rfl)
  exact if_neg (fun e=>hkl (h.disj k l b hkn hln hb' (by rw[e];exact hown)))
theorem WF.kill{w:World}{g:Gh}{S:Ae}(h:WF w g S)(l:Nat):WF w g (S.set l .dead):=by
 refine⟨by rw[List.length_set];exact h.nid,fun k o hk=>?_,h.disj,h.lt,h.tab⟩
 by_cases hkl:k=l
 ·subst hkl
  by_cases hlt:k<S.length
  ·rw[List.getElem?_set_self hlt]at hk;cases hk;trivial
  ·rw[List.getElem?_eq_none (by simp;omega)]at hk;cases hk
 ·rw[List.getElem?_set_ne (Ne.symm hkl)]at hk
  exact h.obj k o hk
theorem U1{w:World}{g g':Gh}{es:List AV}{arr:Array Value}{sz b c:Nat}{T:TypeId}{fr:Nat×Nat}(hle:Le w g w g')(hsz:∀x∈es,x.cells.length=sz)(hh:w.heap[b]? = some (.cells arr T fr))(hG:es.length*sz≤g'.G b)
  (hc:es.length≤c)(hm:c≤maxLen)(hok:(Ak es).all (AV.o1 0)=true)(h1:∀(j:Nat) v,arr[j]? = some v→j<(Ak es).length→v.oneCell'=true)(hr:∀(j:Nat) u v,(Ak es)[j]? = some u→arr[j]? = some v→Rel w g u v)(hl:(Ak es).length≤arr.size):
  Rel w g' (.sl .ro es) (.slice (some ⟨b,0,none⟩) es.length c):=by
 have hfl:=Ft hsz;have hren:RenOk w g w g'.noid id 0:=⟨hle.noid,fun l hl=>absurd hl (Nat.not_lt_zero _)⟩
 refine .sl _ .ro es _ c sz (fun j=>arr.getD j undef) hc hm hsz (fun _=>⟨b,0,rfl,fun j hj=>⟨by omega,?_⟩⟩) (fun j hj=>?_) (fun j u hu=>?_) trivial
 ·rw[Nat.zero_add,cell_of_row w b j arr T fr hh]
  have:j<arr.size:=by omega
  simp[Array.getD,this]
 ·have:j<arr.size:=by omega
  refine h1 j _ ?_ hj
  simp[Array.getD,this]
 ·have hj:=(List.getElem?_eq_some_iff.1 hu).1
  have hj':j<arr.size:=by omega
  have hv:arr[j]? = some (arr.getD j undef):=by simp[Array.getD,hj']
  have hk:=List.all_eq_true.1 hok u (List.mem_of_getElem? hu);have :=(hr j u _ hu hv).r1 hren hk;rwa[DJ hk (fun i hi=>absurd hi (Nat.not_lt_zero _))]at this
theorem WF.frz{w:World}{g:Gh}{S:Ae}(h:WF w g S){l:Nat}{es:List AV}{e:TypeId}{sz:Nat}(hS:S[l]? = some (.row (Ak es) e sz))(hsz:∀x∈es,x.cells.length=sz)(hok:(Ak es).all (AV.o1 0)=true):
  ∃g',WF w g' (S.set l .dead)∧Evo w g w g' ∧ ∀cv,Rel w g (.wr l es.length none) cv→Rel w g' (.sl .ro es) cv:=by
 obtain⟨hb,⟨hsz0,hwm⟩,hrow⟩:=h.obj l _ hS;have hfl:=Ft hsz;have hn:es.length=g.wm l:=Nat.eq_of_mul_eq_mul_right hsz0 (by omega)
 rcases Nat.eq_zero_or_pos es.length with h0|h0
 ·have:es=[]:=List.eq_nil_of_length_eq_zero h0
  subst this;refine⟨g,h.kill l,Evo.refl w g,fun cv hr=>?_⟩
  cases hr with
  |wr _ _ _ c A hl hb hwn hc hcm h0 hA=>exact .sl _ .ro [] A c sz (fun _=>undef) hc hcm (by simp) (fun h=>absurd h (Nat.lt_irrefl 0)) (by simp[Ak]) (by simp[Ak]) trivial
 ·rcases hrow with⟨_,hrow⟩|⟨hown,hG,arr,fr,hh,hfr,hcap,hcl,h9,h10⟩
  ·rw[hrow]at hfl
   have :=Nat.mul_pos h0 hsz0;simp at hfl;omega
  ·obtain⟨q1,q2⟩:=h.still (n:=es.length*sz) hS hown hG hh
   refine⟨_,q1,q2,fun cv hr=>?_⟩
   cases hr with
   | wr _ _ _ c A hl hb hwn hc hcm h0' hA=>
    obtain⟨rfl,hA⟩:c=g.cap l∧(0<c→A=some ⟨g.pl l,0,none⟩):=by
     rcases hA with hA|hA
     ·omega
     ·exact hA
    rw[hA (by omega)]
    exact U1 q2.toLe hsz hh (by simp) hc hcm hok h9 h10 hcl
theorem Aq.frz(N0:Nat){e:Af}{S:Ae}(d l n:Nat){cs es:List AV}{ty:TypeId}{sz:Nat}(hd:e d=.wr l n none)(hS:S[l]? = some (.row cs ty sz))(hcs:cs=Ak es)(hn:n=es.length)(hsz:AH sz es=true)(hok:cs.all (AV.o1 0)=true):Aq N0 e S (Aw e d (.sl .ro es)) (S.set l .dead):=by
 rintro N w0 g0 a w hN ⟨h1,h2,g,h3,h4,h5⟩
 subst hcs hn;obtain⟨g',q1,q2,q3⟩:=h3.frz hS (Em hsz) hok;refine⟨h1,h2,g',q1,fun t=>?_,h5.trans q2⟩
 by_cases htd:t=d
 ·subst htd
  rw[JI];have ht:=h4 t;rw[hd]at ht;exact q3 _ ht
 ·rw[HV _ htd]
  exact(h4 t).le q2.toLe
theorem Aq.frzW(N0:Nat){e:Af}{S:Ae}(d l n c:Nat){cs es tl:List AV}{sz:Nat}(hd:e d=.ws l 0 n c)(hS:S[l]? = some (.cells cs))(hcs:cs=Ak es++tl)(hn:n=es.length)(hsz:AH sz es=true)(hok:(Ak es).all (AV.o1 0)=true):Aq N0 e S (Aw e d (.sl .ro es)) (S.set l .dead):=by
 rintro N w0 g0 a w hN ⟨h1,h2,g,h3,h4,h5⟩
 subst hcs hn;obtain⟨k1,k2,k3,arr,T,fr,k4,k5,k6,k7,k8⟩:=h3.obj l _ hS;obtain⟨q1,q2⟩:=h3.still (n:=es.length*sz) hS k2 k3 k4;have hfl:=Ft (Em hsz);have hsz':(Ak es).length≤arr.size:=by rw[k6,List.length_append];omega
 refine⟨h1,h2,_,q1,fun t=>?_,h5.trans q2⟩
 by_cases htd:t=d
 ·subst htd
  rw[JI];have ht:=h4 t;rw[hd]at ht;generalize a.tmps.getD t undef=cv at ht;cases ht with
  |ws _ _ _ _ _ hl hb hc hm=>
   refine U1 q2.toLe (Em hsz) k4 (by simp) hc hm hok (fun j v hv _=>k7 v (List.mem_iff_getElem?.2 ⟨j,by simpa using hv⟩)) (fun j u v hu hv=>k8 j u v ?_ hv) hsz'
   rw[List.getElem?_append_left (List.getElem?_eq_some_iff.1 hu).1]
   exact hu
 ·rw[HV _ htd]
  exact(h4 t).le q2.toLe
theorem Zla(P:Program)(e:Af)(S:Ae)(x y:Operand)(t u:TypeId):Mt P (.call { callee:=.builtin .append,args:= #[x,y],argTypes:= #[t,u] }) e S=Ky P t u S (ev e x) (ev e y):=rfl
theorem Zk9(P:Program)(e:Af)(S:Ae)(t:TypeId)(n:Nat)(parts:Array (Nat×Operand)):Mt P (.buildSlice t n parts) e S=Mp P t S n (parts.toList.map fun p=>(p.1,ev e p.2)):=rfl
theorem Pu(v:AV)(l:List AV):Ak (v::l)=v.cells++Ak l:=rfl
theorem Pt{α:Type}(f:α→AV)(h:∀a,(f a).cells.all (AV.o1 0)=true):∀l:List α,(Ak (l.map f)).all (AV.o1 0)=true
 |[]=>rfl
 |a::l=>by
  rw[List.map_cons,Pu,List.all_append,h a,Pt f h l];rfl
theorem SI{α:Type}(f:α→AV)(n:Nat)(h:∀a,(f a).cells.length=n):∀l:List α,(Ak (l.map f)).length=l.length*n
 |[]=>by simp[Ak]
 |a::l=>by rw[List.map_cons,Pu,List.length_append,h a,SI f n h l,List.length_cons,Nat.add_mul];omega
theorem ZaP{α:Type}(f:α→AV)(n:Nat)(h:∀a,(f a).cells.length=n)(x:α):∀(l:List α) (j:Nat),j<l.length→Bc (Ak (l.map f)) (j*n) (f x).cells=Ak ((l.set j x).map f)
 |[],j,hj=>absurd hj (Nat.not_lt_zero _)
 |a::l,0,_=>by
  have h1:=h a;have h2:=h x;simp only[List.map_cons,List.set_cons_zero,Pu,Nat.zero_mul,Bc,List.take_zero,List.nil_append,Nat.zero_add,h2];rw[List.drop_append_of_le_length (by omega),List.drop_of_length_le (by omega),List.nil_append]
 |a::l,j+1,hj=>by
  have h1:=h a;have h2:=h x;have ih:=ZaP f n h x l j (by simpa using hj)
  simp only[Bc]at ih;simp only[List.map_cons,List.set_cons_succ,Pu,Bc,Nat.add_mul,Nat.one_mul];rw[←ih,List.take_append,h1,List.take_of_length_le (by omega),List.drop_append,h1,List.drop_of_length_le (by omega)]
  simp only[List.nil_append,List.append_assoc];congr 3
  ·congr 1;omega
  ·congr 1;omega
end Pe
end
section
namespace Pe
open Go Go.RowKit
variable [Tab]
def Gb(e:Af)(ps:List Tmp)(vs:List AV):Af:=(ps.zip vs).foldl (fun e p=>Aw e p.1 p.2) e
theorem Mn{N t:Nat}(e:Af)(h:t<N):BH (Bb N e) t=e t:=by
 simp[BH,Bb,h]
theorem OQ(e:Af)(vs:List AV):Gb e [] vs=e:=by simp[Gb]
theorem Rl(e:Af)(p:Tmp)(ps:List Tmp)(v:AV)(vs:List AV):Gb e (p::ps) (v::vs)=Gb (Aw e p v) ps vs:=rfl
theorem Rk{w:World}{g:Gh}:∀(q:List Tmp) (vs:List AV) (cs:List Value) (e:Af) (a:Act),vs.length=q.length→cs.length=q.length→(∀(j:Nat) u x,vs[j]? = some u→cs[j]? = some x→Rel w g u x)→(∀p∈q,p<a.tmps.size)→CZ w g e a →
  CZ w g (Gb e q vs) { a with tmps:=(q.zip cs).foldl (fun t p=>t.setIfInBounds p.1 p.2) a.tmps }∧((q.zip cs).foldl (fun t p=>t.setIfInBounds p.1 p.2) a.tmps).size=a.tmps.size
 |[],vs,cs,e,a,_,_,_,_,he=>⟨by rw[OQ];exact he,rfl⟩
 |p::q,[],cs,e,a,h,_,_,_,_=>by simp at h
 |p::q,v::vs,[],e,a,_,h,_,_,_=>by simp at h
 |p::q,v::vs,c::cs,e,a,h1,h2,h3,h4,he=>by
  have hp:CZ w g (Pe.put e (some p) v) (a.put (some p) c):=he.put (fun x hx=>by cases hx;exact h4 p (by simp)) (h3 0 v c rfl rfl)
  have :=Rk q vs cs (Aw e p v) (a.put (some p) c) (by simpa using h1) (by simpa using h2) (fun j u x hu hx=>h3 (j+1) u x (by simpa using hu) (by simpa using hx)) (fun x hx=>by simpa[Act.put] using h4 x (by simp[hx])) hp
  refine⟨this.1,?_⟩
  have h5:=this.2;simp only[Act.put,Array.size_setIfInBounds]at h5;exact h5
section
variable {P:Program} {pf rf:List FuncId}
def TG(N0 l:Nat)(o:LoopState→SObj)(S':Ae):AX→Af→Ae→Prop
 |.norm=>fun e S=>∃e1 S1 κ,Aq N0 e S e1 S1∧S1[l]? = some (o .busy)∧SubOk κ (S1.set l (o .ready)) S'∧κ.take N0=List.range N0
 |_=>fun _ _=>False
def NP(l:Nat)(o:LoopState→SObj)(B:Af→Ae→Prop):AX→Af→Ae→Prop
 |.norm=>fun e S=>S[l]? = some (o .ready)∧B e (S.set l (o .busy))
 |_=>fun _ _=>False
theorem LW{w:World}{g:Gh}{S:Ae}{l b D:Nat}{fn:FuncId}{es:List AV}{ps:Array Tmp}{asn bdy:Code}{st:LoopState}(hw:WF w g S)(hl:S[l]? = some (.loop b D fn es ps asn bdy st)):
  ∃ tm,w.heap[b]? = some (.loop { state:=st,pending:=JV st bdy,fn,tmps:=tm,params:=ps,assign:=asn,body:=bdy,defers:=D })∧tm.size=es.length∧(∀(j:Nat) u x,es[j]? = some u→tm[j]? = some x→Rel w g u x) ∧
   ∀st',WF (w.putObj b (.loop { state:=st',pending:=JV st' bdy,fn,tmps:=tm,params:=ps,assign:=asn,body:=bdy,defers:=D })) g (S.set l (.loop b D fn es ps asn bdy st')) ∧
    Evo w g (w.putObj b (.loop { state:=st',pending:=JV st' bdy,fn,tmps:=tm,params:=ps,assign:=asn,body:=bdy,defers:=D })) g:=by
 obtain⟨b1,b2,b3,rfl,tm,b5,b6,b7⟩:=hw.obj _ _ hl;refine⟨tm,b5,b6,b7,fun st'=>?_⟩
 refine hw.put (o:=.loop (g.pl l) D fn es ps asn bdy st') (List.getElem?_eq_some_iff.1 hl).1 b2 b3 ?_
 have hle:=Le.setObj (w:=w) b3 (.loop { state:=st',pending:=JV st' bdy,fn,tmps:=tm,params:=ps,assign:=asn,body:=bdy,defers:=D });have hlt:=(Array.getElem?_eq_some_iff.1 b5).1
 exact⟨b1,b2,b3,rfl,tm,by simp[hlt],b6,fun j u x hu hx=>(b7 j u x hu hx).le hle⟩
theorem CO.of_wp{b D:Nat}{fn:FuncId}{es args:List AV}{ps:Array Tmp}{asn bdy:Code}{S S':Ae}(pf rf:List FuncId)(l:Nat)(hl:S[l]? = some (.loop b D fn es ps asn bdy .ready))(hlen:args.length=ps.size)(hps:∀p∈ps.toList,p<es.length)
  (hm:P.follows .mixedOrders=true)(hoa:Dx P pf rf es.length asn=true)(hra:DN asn=true)(B:Af→Ae→Prop)
  (hB:∀(w0:World) (g0:Gh) (e:Af) (T:Ae) (a:Act) (w:World),g0.nid=S.length→AP es.length w0 g0 e T a w→B e T→bdy.wpIn (wR (some b)) 0 P (EW es.length w0 g0 (TG S.length l (.loop b D fn es ps asn bdy) S')) a w)
  (h:AW P pf rf S.length (Cm asn) (NP l (.loop b D fn es ps asn bdy) B) (Gb (BH es) ps.toList args) S):CO P b args S (.bo true) S':=by
 intro w g cargs hw hargs;obtain⟨tm,b5,b6,b7,_⟩:=LW hw hl;have hsz:cargs.size=ps.size:=by rw[hargs.1,hlen]
 have hfold:(ps.zip cargs).foldl (fun tmps (t,a)=>tmps.setIfInBounds t a) tm=(ps.toList.zip cargs.toList).foldl (fun t p=>t.setIfInBounds p.1 p.2) tm:=by
  rw[←Array.foldl_toList,Array.toList_zip]
 refine⟨fn,_,asn,bdy,run_yield b5 hsz,?_⟩
 have hE0:CZ w g (BH es) { tmps:=tm,defers:=[] }:=fun t=>by
  show Rel w g (es.getD t .junk) (tm.getD t undef)
  rw[List.getD_eq_getElem?_getD]
  cases ht:es[t]? with
  |none=>exact .junk _ _
  |some u=>
   have hlt:t<tm.size:=by rw[b6];exact(List.getElem?_eq_some_iff.1 ht).1
   have h1:tm[t]? = some tm[t]:=Array.getElem?_eq_getElem hlt
   rw[Array.getD_eq_getD_getElem?,h1];exact b7 t u _ ht h1
 obtain⟨hE1,hsz1⟩:=Rk ps.toList args cargs.toList (BH es) { tmps:=tm,defers:=[] } (by simpa using hlen) (by simpa using hsz) (fun j u x hu hx=>hargs.2 j u x hu (by simpa using hx)) (fun p hp=>by show p<tm.size;rw[b6];exact hps p hp) hE0
 refine roundIn_of_wpIn (F:=Fence.wide) (n:=0) trivial ?_
 simp only at hE1 hsz1
 rw[←hfold]at hE1 hsz1;have hc:AP es.length w g (Gb (BH es) ps.toList args) S { tmps:=(ps.zip cargs).foldl (fun tmps (t,a)=>tmps.setIfInBounds t a) tm,defers:=[] } w:=⟨hsz1.trans b6,trivial,g,hw,hE1,.none (Evo.refl w g)⟩
 have ha:=N2 (some b) (.inr hra) hm hw.nid _ _ S _ w hoa hc h;refine Go.wpIn_mono (F:=Fence.wide.inRound b) ha ?_
 intro ex a1 w1 hq;cases ex with
 | normal=>
  obtain⟨e1,S1,⟨c1,_,g1,c2,c3,c4⟩,hl1,hbd⟩:=hq;obtain⟨tm1,d5,_,_,d8⟩:=LW c2 hl1;obtain⟨d9,d10⟩:=d8 .busy;refine⟨_,run_beginRound d5 rfl,?_⟩
  have hc1:AP es.length w g e1 (S1.set l (.loop b D fn es ps asn bdy .busy)) a1 (w1.putObj b (.loop { state:=.busy,pending:=none,fn,tmps:=tm1,params:=ps,assign:=asn,body:=bdy,defers:=D })):=⟨c1,trivial,g1,d9,fun t=>(c3 t).le d10.toLe,c4.trans d10⟩
  have hb:=hB _ _ _ _ _ _ hw.nid hc1 hbd;refine Go.wpIn_mono (F:=Fence.wide.inRound b) hb ?_
  intro ex2 a2 w2 hq2;cases ex2 with
  |normal=>
   obtain⟨e2,S2,hc2,e3,S3,κ,k0,k1,k2,k3⟩:=hq2;obtain⟨_,_,g3,m1,m2,m3⟩:=k0 es.length w g a2 w2 hw.nid hc2;obtain⟨tm3,n1,_,_,n4⟩:=LW m1 k1;obtain⟨n5,n6⟩:=n4 .ready;refine⟨_,_,run_endRound none n1,.bool true,g3.sub κ,rfl,n5.sub k2,.bo _ _,?_⟩
   exact(m3.toEvo.trans n6).sub k2.nodup (k2.lt n5) (by rw[hw.nid];exact k3)
  |exit i=>obtain⟨_,_,_,q⟩:=hq2;exact q.elim
  |ret=>obtain⟨_,_,_,q⟩:=hq2;exact q.elim
  |_=>exact hq2.elim
 |exit i=>obtain⟨_,_,_,q⟩:=hq;exact q.elim
 |ret=>obtain⟨_,_,_,q⟩:=hq;exact q.elim
 |_=>exact hq.elim
theorem CO.enter{b D:Nat}{fn:FuncId}{es args:List AV}{ps:Array Tmp}{asn bdy:Code}{S S':Ae}(pf rf:List FuncId)(l:Nat)(hl:S[l]? = some (.loop b D fn es ps asn bdy .ready))(hlen:args.length=ps.size)(hps:∀p∈ps.toList,p<es.length)
  (hm:P.follows .mixedOrders=true)(hoa:Dx P pf rf es.length asn=true)(hob:Dx P pf rf es.length bdy=true)(hra:DN asn=true)(hrb:DN bdy=true)
  (h:AW P pf rf S.length (Cm asn) (NP l (.loop b D fn es ps asn bdy) (AW P pf rf S.length (Cm bdy) (TG S.length l (.loop b D fn es ps asn bdy) S'))) (Gb (BH es) ps.toList args) S):CO P b args S (.bo true) S':=
 CO.of_wp pf rf l hl hlen hps hm hoa hra _ (fun w0 g0 e T a w hn hc hb=>N2 (some b) (.inr hrb) hm hn _ _ _ _ _ hob hc hb) h
end
end Pe
end
section
namespace Pe
open Go Go.RowKit
variable [Tab] {P:Program}
theorem Aq.reserveN[Tab](N0:Nat){e:Af}{S:Ae}(l i:Nat){cs es:List AV}(hS:S[l]? = some (.cells cs))(hi:cs[i]? = some (.sl .full es))(ty:TypeId)(sz:Nat):Aq N0 e S e (S.set l (.cells (cs.set i (.sl (.own S.length) es)))++[.buf es.length ty sz]):=by
 rintro N w0 g0 a w hn ⟨h1,h2,g,h3,h4,h5⟩
 obtain⟨g',h6,h7,h8,h9,h10⟩:=h3.reserve es.length ty sz;have hlS:=(List.getElem?_eq_some_iff.1 hS).1
 have hic:=(List.getElem?_eq_some_iff.1 hi).1
 have hn3:=h3.nid;have hn6:=h6.nid;rw[List.length_append,List.length_singleton]at hn6;refine⟨h1,h2,g',⟨by rw[List.length_append,List.length_set,List.length_singleton];exact hn6,fun k o hk=>?_,h6.disj,h6.lt,h6.tab⟩,fun t=>(h4 t).le h7.toLe,h5.trans h7⟩
 by_cases hkl:k=l
 ·subst hkl
  rw[List.getElem?_append_left (by rw[List.length_set];exact hlS),List.getElem?_set_self hlS]at hk
  cases hk
  obtain⟨k1,k2,k3,arr,T,fr,k4,k5,k6,k7,k8⟩:=h6.obj k (.cells cs) (J7 hS _);refine⟨k1,k2,k3,arr,T,fr,k4,k5,by rw[List.length_set];exact k6,k7,fun j u v hu hv=>?_⟩
  by_cases hj:j=i
  ·subst hj
   rw[List.getElem?_set_self hic]at hu
   cases hu
   refine(k8 j _ v hi hv).own_full (by omega) ?_ ?_
   ·rw[←hn3];exact h9
   ·rw[←hn3];exact h10
  ·rw[List.getElem?_set_ne (Ne.symm hj)]at hu
   exact k8 j u v hu hv
 ·refine h6.obj k o ?_
  by_cases hkS:k<S.length
  ·rw[List.getElem?_append_left (by rw[List.length_set];exact hkS),List.getElem?_set_ne (Ne.symm hkl)]at hk
   rw[List.getElem?_append_left hkS]
   exact hk
  ·rw[List.getElem?_append_right (by rw[List.length_set];omega),List.length_set]at hk
   rw[List.getElem?_append_right (by omega)]
   exact hk
def JA(E e:Af):Prop:=∀t,E t=e t∨E t=.junk
theorem JA.nil(e:Af):JA (fun _=>.junk) e:=fun _=>.inr rfl
theorem JA.cons{E e:Af}(h:JA E e)(t:Nat)(v:AV)(hv:e t=v):JA (Aw E t v) e:=fun u=>by
 unfold Aw;by_cases hu:u=t
 ·rw[if_pos hu,hu];exact .inl hv.symm
 ·rw[if_neg hu];exact h u
theorem Aq.keep(N0:Nat){E e:Af}{S:Ae}(h:JA E e):Aq N0 e S E S:=by
 rintro N w0 g0 a w hn ⟨h1,h2,g,h3,h4,h5⟩
 refine⟨h1,h2,g,h3,fun t=>?_,h5⟩
 rcases h t with e1|e1<;>rw[e1]
 ·exact h4 t
 ·exact .junk _ _
theorem Aq.trans2{N0:Nat}{e e1 e2:Af}{S S1 S2:Ae}(h:Aq N0 e S e1 S1)(h':Aq N0 e1 S1 e2 S2):Aq N0 e S e2 S2:=fun N w0 g0 a w hn hc=>h' N w0 g0 a w hn (h N w0 g0 a w hn hc)
theorem Zld{N:Nat}{g:Operand}{ps:Array Tmp}{asn bdy:Code}{K:Af→Ae→Prop}{e:Af}{S:Ae}{f:FuncId}{fa ca:List AV}(hg:ev e g=.fn (.func f) fa ca)(v:AV)(S' U:Ae)(hl:S'.length=S.length)
  (hac:∀b D fn,AC P f (fa++[.fn (.yield b) [] []]++ca) (S++[.loop b D fn (Bb N e) ps asn bdy .ready]) v (S'++.loop b D fn (Bb N e) ps asn bdy .ready::U))(hK:K e (S'++.dead::U)):N3 P N g ps asn bdy K e S:=by
 unfold N3;rw[hg];exact⟨v,S',U,hl,hac,hK⟩
end Pe
end
section
namespace Pe
open Go Go.RowKit
variable [Tab]
section
variable {P:Program} {pf rf:List FuncId} {ops:Array Oper} {Q:Af→Ae→Prop} {fuel:Nat} {listed:Array Bool} {e:Af} {S:Ae}
abbrev Rw(P:Program)(pf rf:List FuncId)(ops:Array Oper)(Q:Af→Ae→Prop)(fuel:Nat)(listed:Array Bool)(e:Af)(S:Ae):Prop:=D8 P (Bh P pf rf) .any ops Q fuel listed e S
theorem Vk{o:AO}{K:Af→Ae→Prop}(hg:o.gd=none)(h:Bs P pf rf [o] e S K):Bd P pf rf o.op e S (fun v S'=>K (put e o.dst v) S'):=by
 rw[Bs]at h;obtain⟨b,hb,h⟩:=C8 h;rw[hg]at hb;cases hb
 have h:=h.1 rfl;have e1:(fun v S'=>Bs P pf rf [] (put e o.dst v) S' K)=fun v S'=>K (put e o.dst v) S':=by funext v S';rw[Bs]
 rw[e1]at h;exact h
theorem Od{o:Oper}(hg:o.guard=none):Cp ops o e=some true:=by unfold Cp;rw[hg]
theorem LG(i:Nat){d:Option Nat}{op:Op}{o:Oper}(hi:ops[i]? = some o)(hd:o.dst=d)(ho:o.op=op)(hg:o.guard=none)(hf:Nq (Bh P pf rf) .any ops listed i=true)(hr:(Region.ready .any ops listed).contains i=true)
  (h:Bs P pf rf [⟨d,op,none⟩] e S (Rw P pf rf ops Q fuel (listed.setIfInBounds i true))):D8 P (Bh P pf rf) .any ops Q (fuel+1) listed e S:=by
 subst hd ho;obtain⟨v,S',hx,hK⟩:=N4 (Vk rfl h);exact Qi hi fuel listed e S S' (SB hi hf) (by simpa using hr) (.inl ⟨Od hg,hx⟩) hK
theorem Zeb(hne:(Region.ready .any ops listed).isEmpty=false)(h:∀i∈Region.ready .any ops listed,∃o:Oper,ops[i]? = some o∧o.guard=none∧Bs P pf rf [⟨o.dst,o.op,none⟩] e S (Rw P pf rf ops Q fuel (listed.setIfInBounds i true))):
  D8 P (Bh P pf rf) .any ops Q (fuel+1) listed e S:=by
 refine⟨fun h0=>(by rw[h0]at hne;cases hne),fun i hi=>?_⟩
 obtain⟨o,h1,h2,h3⟩:=h i hi;obtain⟨v,S',hx,hK⟩:=N4 (Vk rfl h3);unfold xOp;simp only[h1,Od h2];exact⟨v,S',hx,hK⟩
end
end Pe
end
section
namespace Pe
open Go Go.RowKit
set_option maxRecDepth 100000
set_option maxHeartbeats 4000000
theorem Mz{P:Program}[Tab]{cls:Op→Cls}{ops:Array Oper}{Q:Af→Ae→Prop}(rest:List Oper):∀(l:List Oper) (e:Af) (S:Ae),Dn P cls ops (Dn P cls ops Q rest) l e S→Dn P cls ops Q (l++rest) e S
 |[],_,_,h=>h
 | o::l,e,S,h=>by
  simp only[List.cons_append,Dn]at h ⊢;split at h
  ·obtain⟨v,S',hx,h⟩:=h
   exact⟨v,S',hx,Mz rest l _ _ h⟩
  ·exact Mz rest l _ _ h
  ·exact h
def HW(P:Program)[Tab](N N0:Nat)(c:Code)(Q:AX→Af→Ae→Prop)(e:Af)(S:Ae):Prop:=
 ∀(w0:World) (g0:Gh) (a:Act) (w:World),g0.nid=N0→AP N w0 g0 e S a w→c.wpIn (wR none) 0 P (EW N w0 g0 Q) a w
section
variable {P:Program} [Tab] {N N0:Nat} {Q:AX→Af→Ae→Prop} {e:Af} {S:Ae}
theorem HW.aw(pf rf:List FuncId){c:Code}(hm:P.follows .mixedOrders=true)(hok:Dx P pf rf N c=true)(h:AW P pf rf N0 (Cm c) Q e S):HW P N N0 c Q e S:=
 fun _ _ _ _ hn hc=>N2 none (.inl rfl) hm hn Q e S _ _ hok hc h
theorem HW.seq{x y:Code}(h:HW P N N0 x (CR Q (HW P N N0 y Q)) e S):HW P N N0 (.seq x y) Q e S:=fun w0 g0 a w hn hc=>by
 refine wpIn_seq (Go.wpIn_mono (h w0 g0 a w hn hc) ?_)
 intro ex a' w' hq;cases ex with
 |normal=>obtain⟨e',S',hc',h'⟩:=hq;exact h' w0 g0 a' w' hn hc'
 |exit id=>exact hq
 |ret=>exact hq
 |_=>exact hq.elim
theorem HW.reg(pf rf:List FuncId){id:Nat}{ops:Array Oper}(hds:D3 N ops=true)(h:Dn P (Bh P pf rf) ops (Q .norm) ops.toList e S):HW P N N0 (.region id ops false) Q e S:=
 fun _ _ _ _ _ hc=>OO hds (fun e S _ _ hc hq=>⟨e,S,hc,hq⟩) hc h none
theorem AC.hw{f:FuncId}{fn:Func}{c:Code}{args:List AV}{S':Ae}{v:AV}(N:Nat)(hf:P.funcs[f]? = some fn)(hb:fn.body=some c)(hname:fn.name ≠ "runtime.NumGoroutine")(hn:args.length≤fn.ntmps)(hN:fn.ntmps=N)
  (h:HW P N S.length c (Dw P fn.results.toList S.length v S') (BH args) S):AC P f args S v S':=
 AC.of_wp hf hb hname hn fun w g a hg hc=>by subst hN;exact h w g a w hg hc
end
section
variable {P:Program} [Tab] {N N0:Nat} {Q:AX→Af→Ae→Prop} {e:Af} {S:Ae}
theorem HW.weak{c:Code}{e':Af}{S':Ae}(hw:Aq N0 e S e' S')(h:HW P N N0 c Q e' S'):HW P N N0 c Q e S:=fun w0 g0 a w hn hc=>h w0 g0 a w hn (hw N w0 g0 a w hn hc)
theorem HW.cut{x y:Code}(I:Af→Ae→Prop)(h1:∀K:Af→Ae→Prop,(∀e S,I e S→K e S)→HW P N N0 x (CR Q K) e S)(h2:∀e S,I e S→HW P N N0 y Q e S):HW P N N0 (.seq x y) Q e S:=HW.seq (h1 _ h2)
theorem HW.raw(pf rf:List FuncId){id:Nat}{ops:Array Oper}(hm:P.follows .mixedOrders=true)(hds:D3 N ops=true)(h:D8 P (Bh P pf rf) .any ops (Q .norm) ops.size (Array.replicate ops.size false) e S):HW P N N0 (.region id ops true) Q e S:=fun w0 g0 a w hn hc=>by
 refine wpIn_region_any hm (IL none (cls:=Bh P pf rf) hds (fun e S _ _ hc hq=>⟨e,S,hc,hq⟩) _ _ e S a _ (hc.draw _) ?_)
 exact h
end
section
variable {P:Program} [Tab] {pf rf:List FuncId} {ops:Array Oper} {Q:Af→Ae→Prop} {fuel:Nat} {listed:Array Bool} {e:Af} {S:Ae}
abbrev Zk3(P:Program)[Tab](pf rf:List FuncId)(ops:Array Oper)(Q:Af→Ae→Prop)(fuel:Nat)(listed:Array Bool)(e:Af)(S:Ae)(i:Nat):Prop:=
 ∃o:Oper,ops[i]? = some o∧o.guard=none∧Bs P pf rf [⟨o.dst,o.op,none⟩] e S (Rw P pf rf ops Q fuel (listed.setIfInBounds i true))
theorem Zd9{i:Nat}(hr:Region.ready .any ops listed=[i])(h1:Zk3 P pf rf ops Q fuel listed e S i):D8 P (Bh P pf rf) .any ops Q (fuel+1) listed e S:=
 Zeb (by rw[hr];rfl) (fun k hk=>by rw[hr,List.mem_singleton]at hk;rw[hk];exact h1)
end
section
variable {P:Program} [Tab] {pf rf:List FuncId} {ops:Array Oper} {Q:Af→Ae→Prop} {fuel:Nat} {listed:Array Bool} {e:Af} {S S':Ae} {v:AV}
theorem OI{i:Nat}{o:Oper}(d:Option Nat)(op:Op)(hr:Region.ready .any ops listed=[i])(hi:ops[i]? = some o)(hd:o.dst=d)(ho:o.op=op)(hg:o.guard=none)(h:Bs P pf rf [⟨d,op,none⟩] e S (Rw P pf rf ops Q fuel (listed.setIfInBounds i true))):D8 P (Bh P pf rf) .any ops Q (fuel+1) listed e S:=by
 subst hd ho;exact Zd9 hr ⟨o,hi,hg,h⟩
theorem OJ{i:Nat}{o:Oper}(d:Option Nat)(op:Op)(hr:Region.ready .any ops listed=[i])(hi:ops[i]? = some o)(hd:o.dst=d)(ho:o.op=op)(hg:o.guard=none)(hx:o.op=op→CE P (Bh P pf rf op) o e S v S')(hK:Rw P pf rf ops Q fuel (listed.setIfInBounds i true) (put e d v) S'):D8 P (Bh P pf rf) .any ops Q (fuel+1) listed e S:=
 ⟨fun h0=>(by rw[hr]at h0;cases h0),fun k hk=>by
  subst hd ho;rw[hr,List.mem_singleton]at hk;subst hk;unfold xOp;simp only[hi,Od hg];exact⟨v,S',hx rfl,hK⟩⟩
theorem Zd8(i:Nat){o:Oper}(d:Option Nat)(op:Op)(hi:ops[i]? = some o)(hd:o.dst=d)(ho:o.op=op)(hg:o.guard=none)(hf:Nq (Bh P pf rf) .any ops listed i=true)(hr:(Region.ready .any ops listed).contains i=true)(hx:o.op=op→CE P (Bh P pf rf op) o e S v S')(hK:Rw P pf rf ops Q fuel (listed.setIfInBounds i true) (put e d v) S'):D8 P (Bh P pf rf) .any ops Q (fuel+1) listed e S:=by
 subst hd ho;exact Qi hi fuel listed e S S' (SB hi hf) (by simpa using hr) (.inl ⟨Od hg,hx rfl⟩) hK
end
section
variable {P:Program} [Tab] {N N0:Nat} {Q:AX→Af→Ae→Prop} {e:Af} {S:Ae}
theorem HW.block{id:Nat}{c:Code}(h:HW P N N0 c (EE id Q) e S):HW P N N0 (.block id c) Q e S:=fun w0 g0 a w hn hc=>by
 refine wpIn_block (Go.wpIn_mono (h w0 g0 a w hn hc) ?_)
 intro ex a' w' hq;cases ex with
 |normal=>exact hq
 |exit i=>
  obtain⟨e',S',hc',h'⟩:=hq;simp only[EE]at h';simp only[Exit.inBlock];by_cases hi:i=id
  ·rw[if_pos hi]at h' ⊢;exact⟨e',S',hc',h'⟩
  ·rw[if_neg hi]at h' ⊢;exact⟨e',S',hc',h'⟩
 |ret=>exact hq
 |_=>exact hq.elim
theorem HW.loop{c:Code}(I:Nat→Af→Ae→Prop)(n:Nat)(e':Af)(S':Ae)(hwk:Aq N0 e S e' S')(hI:I n e' S')(h:∀n e S,I n e S→HW P N N0 c (CR Q (H7 N0 I n)) e S):HW P N N0 (.loop c) Q e S:=fun w0 g0 a w hn hc=>by
 refine MA (fun n a w=>∃e S,AP N w0 g0 e S a w∧I n e S) n ⟨e',S',hwk N w0 g0 a w hn hc,hI⟩ ?_
 rintro n a w ⟨e,S,hc,hI⟩
 refine Go.wpIn_mono (h n e S hI w0 g0 a w hn hc) ?_
 intro ex a' w' hq;cases ex with
 |normal=>
  obtain⟨e1,S1,hc1,n',e2,S2,hlt,hwk',hI'⟩:=hq;exact⟨n',hlt,e2,S2,hwk' N w0 g0 a' w' hn hc1,hI'⟩
 |exit i=>exact hq
 |ret=>exact hq
 |_=>exact hq.elim
end
theorem Zih{P:Program}[Tab]{rs:List ResultVar}{e:Af}{S:Ae}(d l:Nat){n sz:Nat}{cs es:List AV}{ty:TypeId}(hcs:cs=Ak es)(hn:n=es.length)(hsz:AH sz es=true)(hok:cs.all (AV.o1 0)=true)
  (h:Da P rs (Aw e d (.sl .ro es)) (S.set l .dead)=some [.sl .ro es])(hd:e d=.wr l n none:=by rfl)(hS:S[l]? = some (.row cs ty sz):=by rfl):Dw P rs 0 (.sl .ro es) [] .ret e S:=
 Yz _ _ (Aq.frz 0 d l n hd hS hcs hn hsz hok) [] h ⟨List.nodup_nil,rfl,fun i o hi=>by cases hi⟩ rfl rfl rfl
end Pe
end
section
namespace Pe
open Go Go.RowKit
set_option maxRecDepth 100000
set_option maxHeartbeats 4000000
variable [Tab]
section
variable {P:Program} {pf rf:List FuncId} {Kp lp wp:List Nat}
def EV(P:Program)(pf rf:List FuncId)(Kp lp wp:List Nat):List AO→Af→Ae→(Af→Ae→Prop)→Prop
 |[],e,S,K=>K e S
 |o::rest,e,S,K=>∃b,FA o.gd e=some b∧match b with
  |true=>DY P pf rf Kp lp wp [⟨o.dst,o.op,none⟩] e S fun e' S'=>EV P pf rf Kp lp wp rest e' S' K
  |false=>EV P pf rf Kp lp wp rest (put e o.dst (.tup [])) S K
theorem ZkC(ops:Array Oper)(o:Oper)(e:Af):FA (Dh ops o).gd e=Cp ops o e:=by
 unfold Dh Cp;cases hgd:o.guard with
 |none=>rfl
 | some p=>
  obtain⟨j,want⟩:=p;simp only[FA,NT];cases hd:(ops[j]?).bind (·.dst)with
  |none=>cases want<;>rfl
  |some d=>
   simp only
   cases he:e d with
   |bo b=>cases b<;>cases want<;>rfl
   |tup vs=>cases vs<;>cases want<;>rfl
   |_=>rfl
theorem Cf.unguard{cls:Op→Cls}{o:Oper}{e:Af}{S S':Ae}{v:AV}(h:Cf P Kp lp wp cls { o with guard:=none } e S v S'):Cf P Kp lp wp cls o e S v S':=h
theorem FE{ops:Array Oper}{Q:Af→Ae→Prop}:∀(l:List Oper) (e:Af) (S:Ae),EV P pf rf Kp lp wp (l.map (Dh ops)) e S Q→C0 P Kp lp wp (Bh P pf rf) ops Q l e S
 |[],e,S,h=>h
 | o::rest,e,S,h=>by
  simp only[List.map_cons,EV]at h;obtain⟨b,hb,h⟩:=h;rw[ZkC]at hb;unfold C0;simp only[hb];cases b with
  |true=>
   simp only at h ⊢
   have h1:=HS (ops:=ops) [{ o with guard:=none }] e S (show DY P pf rf Kp lp wp [⟨o.dst,o.op,none⟩] e S _ from h)
   unfold C0 at h1;simp only[Cp]at h1;obtain⟨v,S',h2,h3⟩:=h1;exact⟨v,S',h2.unguard,FE rest _ _ h3⟩
  |false=>
   simp only at h ⊢
   exact FE rest _ _ h
section
variable {N N0:Nat} {Q:AX→Af→Ae→Prop} {e:Af} {S:Ae}
theorem IK{cls:Op→Cls}{ops:Array Oper}{Q:Af→Ae→Prop}(rest:List Oper):∀(l:List Oper) (e:Af) (S:Ae),C0 P Kp lp wp cls ops (C0 P Kp lp wp cls ops Q rest) l e S→C0 P Kp lp wp cls ops Q (l++rest) e S
 |[],_,_,h=>h
 | o::l,e,S,h=>by
  simp only[List.cons_append,C0]at h ⊢;split at h
  ·obtain⟨v,S',hx,h⟩:=h
   exact⟨v,S',hx,IK rest l _ _ h⟩
  ·exact IK rest l _ _ h
  ·exact h
theorem Uq{pf rf:List FuncId}{ops:Array Oper}{Q:Af→Ae→Prop}{o:Oper}{rest:List Oper}{e:Af}{S S':Ae}{v:AV}(h:AR P o e S v S')(hkeep:keeps Kp S S')(h':C0 P Kp lp wp (Bh P pf rf) ops Q rest (put e o.dst v) S')(hg:o.guard=none:=by rfl)(hk:Gj lp wp o.dst o.op=.ot:=by rfl)(hc:Bh P pf rf o.op=.write:=by rfl):C0 P Kp lp wp (Bh P pf rf) ops Q (o::rest) e S:=by
 unfold C0;simp only[Cp,hg];refine⟨v,S',?_,h'⟩
 unfold Cf;rw[hk];simp only[hc,CE];exact⟨h,hkeep⟩
theorem N8{pf rf:List FuncId}{ops:Array Oper}{Q:Af→Ae→Prop}{o:Oper}{rest:List Oper}{e:Af}{S:Ae}{v:AV}(h:∀R,AR P o e (S++R) v (S++R))(h':C0 P Kp lp wp (Bh P pf rf) ops Q rest (put e o.dst v) S)(hg:o.guard=none:=by rfl)(hk:Gj lp wp o.dst o.op=.ot:=by rfl)(hc:Bh P pf rf o.op=.read:=by rfl):C0 P Kp lp wp (Bh P pf rf) ops Q (o::rest) e S:=by
 unfold C0;simp only[Cp,hg];refine⟨v,S,?_,h'⟩
 unfold Cf;rw[hk];simp only[hc,CE];exact⟨by simpa using h,fun _ _=>rfl⟩
theorem SO{α:Type}:∀l:List α,(List.range l.length).filterMap (fun i=>l[i]?)=l
 |[]=>rfl
 |x::l=>by
  have :=SO l;rw[List.length_cons,List.range_succ_eq_map,List.filterMap_cons,List.filterMap_map];exact congrArg (x :: ·) this
theorem HW.spec4(pf rf:List FuncId)(Kp lp wp:List Nat){id:Nat}{ops:Array Oper}(hm:P.follows .mixedOrders=true)(hB:M8 lp wp (Bh P pf rf) ops (List.range ops.size)=true)(hds:D3 N ops=true)(h:C0 P Kp lp wp (Bh P pf rf) ops (Q .norm) ops.toList e S):HW P N N0 (.region id ops true) Q e S:=fun w0 g0 a w hn hc=>by
 refine Q9 (Kp:=Kp) hm hB hds (fun e S _ _ hc hq=>⟨e,S,hc,hq⟩) hc ?_
 have hl:=SO ops.toList;simp only[Array.length_toList,Array.getElem?_toList]at hl
 rw[hl];exact h
theorem HW.spec(pf rf:List FuncId)(Kp lp wp:List Nat){id:Nat}{ops:Array Oper}(hm:P.follows .mixedOrders=true)(hB:M8 lp wp (Bh P pf rf) ops (List.range ops.size)=true)(hds:D3 N ops=true)(h:EV P pf rf Kp lp wp (ops.toList.map (Dh ops)) e S (Q .norm)):HW P N N0 (.region id ops true) Q e S:=fun w0 g0 a w hn hc=>by
 refine Q9 (Kp:=Kp) hm hB hds (fun e S _ _ hc hq=>⟨e,S,hc,hq⟩) hc ?_
 have hl:=SO ops.toList;simp only[Array.length_toList,Array.getElem?_toList]at hl
 rw[hl];exact FE _ _ _ h
end
variable {K:Af→Ae→Prop} {e e':Af} {S S':Ae} {rest:List AO}
theorem g4{d:Option Nat}{op:Op}{gd:Option (Option Nat×Bool)}(hg:FA gd e=some true)(h:DY P pf rf Kp lp wp [⟨d,op,none⟩] e S fun e' S'=>EV P pf rf Kp lp wp rest e' S' K):EV P pf rf Kp lp wp (⟨d,op,gd⟩::rest) e S K:=⟨true,hg,h⟩
theorem L8{d:Option Nat}{op:Op}{gd:Option (Option Nat×Bool)}(hg:FA gd e=some false)(h:EV P pf rf Kp lp wp rest (put e d (.tup [])) S K):EV P pf rf Kp lp wp (⟨d,op,gd⟩::rest) e S K:=⟨false,hg,h⟩
theorem EO(h:EV P pf rf Kp lp wp rest e' S' K)(hk:keeps Kp S S':=by(intro k hk;simp only[List.mem_cons,List.not_mem_nil,or_false]at hk;first|(subst hk;rfl)|(rcases hk with rfl|rfl<;>rfl)|(rcases hk with rfl|rfl|rfl<;>rfl))):Ov P pf rf (fun e S=>EV P pf rf Kp lp wp rest e S K) Kp lp wp [] S e' S':=⟨hk,h⟩
theorem C7{op:Op}(h:EV P pf rf Kp lp wp rest e' S' K)(hk:JS Kp op e=true:=by rfl):QO P pf rf (fun e S=>EV P pf rf Kp lp wp rest e S K) Kp lp wp op [] e e' S':=⟨hk,h⟩
theorem EB(h:K e S):EV P pf rf Kp lp wp [] e S K:=h
end
section
variable {N0:Nat} {B:(AX→Af→Ae→Prop)→Af→Ae→Prop} {Q:AX→Af→Ae→Prop} {e:Af} {S:Ae}
theorem Vw(N0:Nat)(I:Nat→Af→Ae→Prop):H7 N0 I 0=fun _ _=>False:=by
 funext e S
 exact propext ⟨fun⟨n,_,_,h,_⟩=>absurd h (Nat.not_lt_zero n),False.elim⟩
theorem DR(h:B (CR Q fun _ _=>False) e S):GC N0 B Q e S:=
 ⟨fun n e' S'=>n=0∧e'=e∧S'=S,⟨0,e,S,Aq.refl N0 e S,rfl,rfl,rfl⟩,fun n e' S' ⟨h1,h2,h3⟩=>by
  subst h1 h2 h3;rw[Vw];exact h⟩
theorem LX(h:∀K:Af→Ae→Prop,(∀e S,B (CR Q fun _ _=>False) e S→K e S)→B (CR Q K) e S):GC N0 B Q e S:=
 ⟨fun n e' S'=>(n=1∧e'=e∧S'=S)∨(n=0∧B (CR Q fun _ _=>False) e' S'),⟨1,e,S,Aq.refl N0 e S,.inl ⟨rfl,rfl,rfl⟩⟩,fun n e' S' hI=>by
  rcases hI with⟨h1,h2,h3⟩|⟨h1,h2⟩
  ·subst h1 h2 h3
   exact h _ fun e2 S2 h2=>⟨0,e2,S2,by omega,Aq.refl N0 e2 S2,.inr ⟨rfl,h2⟩⟩
  ·subst h1
   rw[Vw];exact h2⟩
end
section
variable {P:Program} {N N0:Nat} {Q:AX→Af→Ae→Prop} {e:Af} {S:Ae}
theorem Ly{n:Nat}{ρ:Nat→Nat}{o:SObj}(h:o.ok n=true)(hρ:∀i,i<n→ρ i=i):o.ren ρ=o:=by
 cases o with
 |cells cs=>
  have:cs.map (AV.r1 ρ)=cs:=EM (p:=AV.o1 n) h fun v hv=>DJ hv hρ
  show SObj.cells _=_
  rw[this]
 |row cs e sz=>
  have:cs.map (AV.r1 ρ)=cs:=EM (p:=AV.o1 n) h fun v hv=>DJ hv hρ
  show SObj.row _ _ _=_
  rw[this]
 |map es=>
  have h:=List.all_eq_true.1 h;show SObj.map _=SObj.map es
  congr 1
  rw[List.map_congr_left (g:=id) fun p hp=>?_,List.map_id]
  have :=h p hp;simp only[Bool.and_eq_true]at this;show(p.1.r2 ρ,p.2.r2 ρ)=p
  rw[DI this.1 hρ,DI this.2 hρ]
 |loop b D fn es ps asn bdy st=>
  have:es.map (AV.ren ρ)=es:=EM (p:=AV.ok n) h fun v hv=>DG hv hρ
  show SObj.loop _ _ _ _ _ _ _ _=_
  rw[this]
 |_=>rfl
theorem Fin.all{P:Program}{rs:List ResultVar}{v:AV}{e e1:Af}{S S1 S':Ae}{vs:List AV}{N0:Nat}(hw:Aq N0 e S e1 S1)(h:Da P rs e1 S1=some vs)(hS:S1.take S'.length=S')(hN:N0≤S'.length)(hok:S'.all (SObj.ok S'.length)=true)(hk:v.ok S'.length=true)(hv:(Ea vs).wk=v):Fin P rs N0 v S' e S:=by
 have hid:∀i,i<S'.length→Az (List.range S'.length) i=i:=fun i hi=>by
  simp[Az,hi]
 refine⟨e1,S1,vs,List.range S'.length,hw,h,⟨List.nodup_range,by simp,fun i o hi=>?_⟩,by rw[List.take_range,Nat.min_eq_left hN],by rw[List.length_range];exact hk,.inr (by rw[DG hk (fun i hi=>hid i hi)];exact hv)⟩
 have hlt:=(List.getElem?_eq_some_iff.1 hi).1
 have ho:o.ok S'.length=true:=List.all_eq_true.1 hok o (List.mem_of_getElem? hi);rw[List.length_range,hid i hlt];refine⟨ho,?_⟩
 have h1:o.ren (Az (List.range S'.length))=o:=Ly ho hid;have h2:(S1.take S'.length)[i]? = S1[i]? :=List.getElem?_take_of_lt hlt
 rw[h1,←hi,←h2,hS]
theorem BI{P:Program}{rs:List ResultVar}{v:AV}{e:Af}{S S':Ae}{vs:List AV}{N0:Nat}(hok:S'.all (SObj.ok S'.length)=true)(h:Da P rs e S=some vs:=by rfl)(hS:S.take S'.length=S':=by rfl)(hN:N0≤S'.length:=by exact Nat.le_of_ble_eq_true rfl)(hk:v.ok S'.length=true:=by rfl)(hv:(Ea vs).wk=v:=by rfl):Dw P rs N0 v S' .ret e S:=Fin.all (Aq.refl N0 e S) h hS hN hok hk hv
theorem Ei{P:Program}{rs:List ResultVar}{v:AV}{e:Af}{S S':Ae}{vs:List AV}{N0:Nat}(hok:S'.all (SObj.ok S'.length)=true)(h:Da P rs e S=some vs:=by rfl)(hS:S.take S'.length=S':=by rfl)(hN:N0≤S'.length:=by exact Nat.le_of_ble_eq_true rfl)(hk:v.ok S'.length=true:=by rfl)(hv:(Ea vs).wk=v:=by rfl):Dw P rs N0 v S' .norm e S:=Fin.all (Aq.refl N0 e S) h hS hN hok hk hv
end
section
variable {P:Program} {f:FuncId} {xs:List AV} {v:AV} {o o':SObj} {T:Ae}
theorem Oj{v:AV}(h:v.ok 0=true)(g:Nat→Nat):v.ren g=v:=DG h fun i hi=>absurd hi (Nat.not_lt_zero _)
theorem AC.last1(h:AC P f (xs++[.ptr 0 0]) [o] v [o'])(l:Nat)(hT:T[l]? = some o)(hxs:xs.all (AV.ok 0)=true:=by rfl)(hv:v.ok 0=true:=by rfl)(ho:o.ok 0=true:=by rfl)(ho':o'.ok 0=true:=by rfl):AC P f (xs++[.ptr l 0]) T v (T.set l o'):=by
 have hx1:xs.all (AV.ok 1)=true:=List.all_eq_true.2 fun x hx=>Ev (List.all_eq_true.1 hxs x hx) (Nat.zero_le 1)
 have h1:(xs++[AV.ptr 0 0]).all (AV.ok 1)=true:=by rw[List.all_append,hx1];rfl
 have :=h.at1 (T:=T) l (by rw[F6 ho];exact hT) h1 (Ev hv (Nat.zero_le 1)) (HZ ho) (HZ ho')
 rw[List.map_append,EM hxs (fun v hv=>Oj hv _),Oj hv,F6 ho']at this
 exact this
theorem AC.keepl(h:AC P f (xs++[.ptr 0 0]) [o] v [o])(l:Nat)(hT:T[l]? = some o)(hxs:xs.all (AV.ok 0)=true:=by rfl)(hv:v.ok 0=true:=by rfl)(ho:o.ok 0=true:=by rfl):AC P f (xs++[.ptr l 0]) T v T:=by
 have :=h.last1 (T:=T) l hT hxs hv ho ho;rwa[QS hT]at this
theorem cl{pf rf:List FuncId}{e:Af}{d:Option Nat}{rest:List AO}{K:Af→Ae→Prop}{gargs:List AV}(l:Nat)(h:AC P f (xs++[.ptr 0 0]) [o] v [o])(h':Bs P pf rf rest (put e d v) T K)
  (hT:T[l]? = some o:=by rfl)(hg:gargs.map AV.wk=xs++[.ptr l 0]:=by rfl)(hxs:xs.all (AV.ok 0)=true:=by rfl)(hv:v.ok 0=true:=by rfl)(ho:o.ok 0=true:=by rfl):
  Dy (KD P f gargs T) (F1 P pf rf d rest e K):=
 AT (show AC P f (gargs.map AV.wk) T v T by rw[hg];exact h.keepl l hT hxs hv ho) h'
theorem Tr{pf rf:List FuncId}{e:Af}{d:Option Nat}{rest:List AO}{K:Af→Ae→Prop}{args gargs:List AV}(l:Nat)(h:AC P f args [o] v [o])(h':Bs P pf rf rest (put e d v) T K)
  (hT:T[l]? = some o:=by rfl)(hg:gargs.map AV.wk=args.map (AV.ren (Az [l])):=by rfl)(ha:args.all (AV.ok 1)=true:=by rfl)(hv:v.ok 0=true:=by rfl)(ho:o.ok 0=true:=by rfl):
  Dy (KD P f gargs T) (F1 P pf rf d rest e K):=
 AT (show AC P f (gargs.map AV.wk) T v T by
  have :=h.at1 (T:=T) l (by rw[F6 ho];exact hT) ha (Ev hv (Nat.zero_le 1)) (HZ ho) (HZ ho)
  rwa[Oj hv,F6 ho,←hg,QS hT]at this) h'
end
end Pe
end
end Go.Proofs.YtchpmmjmimaigaaGreatDoor
