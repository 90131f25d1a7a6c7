import Derived.Test.YtipfggegddlgdaaGreatDoorKw9
set_option linter.unusedSectionVars false
set_option linter.unusedVariables false
set_option linter.unusedSimpArgs false
namespace Go.Proofs.YtipfggegddlgdaaGreatDoor
section
namespace Pe
open Go Go.RowKit
variable [Tab]
def Cs(md:Region.Mode)(ops:Array Oper)(k:Nat):Nat→Nat→Bool
 |0,j=>j==k
 |n+1,j=>j==k||(match ops[j]? with
  |none=>false
  |some oj=>oj.after.any fun e=>Region.binds md e&&Cs md ops k n e.on)
theorem Xf{md:Region.Mode}{ops:Array Oper}{k:Nat}{listed:Array Bool}(hinv:∀n j,Cs md ops k n j=true→listed.getD j true=false){j:Nat}(hj:j∈Region.ready md ops listed)(hne:j≠k)(n:Nat):Cs md ops k n j=false:=by
 have h0:(j==k)=false:=by simpa using hne
 cases n with
 |zero=>exact h0
 | succ n=>
  obtain⟨_,oj,hoj,hall⟩:=mem_ready.1 hj;cases hd:Cs md ops k (n+1) j with
  |false=>rfl
  |true=>
   exfalso;unfold Cs at hd;rw[h0,hoj,Bool.false_or]at hd;simp only at hd
   rw[Array.any_eq_true']at hd;obtain⟨e,he,h2⟩:=hd;simp only[Bool.and_eq_true]at h2;have h3:=hinv n e.on h2.2;have h1:=hall e he h2.1;rcases Nat.lt_or_ge e.on listed.size with h'|h'
   ·simp[h']at h3 h1;rw[h3]at h1;cases h1
   ·simp[Array.getElem?_eq_none h']at h1
def Oi(cls:Op→Cls)(md:Region.Mode)(ops:Array Oper)(listed:Array Bool)(k:Nat):Bool:=
 match ops[k]? with
 |none=>false
 |some ok=>(List.range ops.size).all fun j=>
  match ops[j]? with
  |none=>true
  |some oj=>j==k||listed.getD j true||Cs md ops k 8 j||GM cls ops ok oj
def Qm(md:Region.Mode)(ops:Array Oper):Bool:=(List.range ops.size).all fun j=>match ops[j]? with
 |none=>true
 |some oj=>oj.after.all fun e=>!Region.binds md e||decide (e.on<j)
theorem Zej{md:Region.Mode}{ops:Array Oper}(h:Qm md ops=true)(k:Nat):∀n j,Cs md ops k n j=true→k≤j:=by
 intro n;induction n with
 |zero=>intro j hj;unfold Cs at hj;have :=beq_iff_eq.1 hj;omega
 | succ n ih=>
  intro j hj;unfold Cs at hj;rw[Bool.or_eq_true]at hj;rcases hj with hj|hj
  ·have :=beq_iff_eq.1 hj;omega
  ·cases ho:ops[j]? with
   |none=>rw[ho]at hj;cases hj
   |some oj=>
    rw[ho]at hj;simp only at hj
    rw[Array.any_eq_true']at hj;obtain⟨e,he,h2⟩:=hj;simp only[Bool.and_eq_true]at h2;have h3:=ih e.on h2.2;have hlt:j<ops.size:=(Array.getElem?_eq_some_iff.1 ho).1
    have h4:=(List.all_eq_true.1 h) j (List.mem_range.2 hlt);rw[ho]at h4;simp only at h4
    have h5:=(Array.all_eq_true_iff_forall_mem.1 h4) e he;rw[h2.1]at h5
    have:e.on<j:=by simpa using h5
    omega
def L3(cls:Op→Cls)(md:Region.Mode)(ops:Array Oper):Nat→Nat→Array Bool→Bool
 |0,_,listed=>(Region.ready md ops listed).isEmpty
 |fuel+1,k,listed=>(Region.ready md ops listed).contains k&&Oi cls md ops listed k&&L3 cls md ops fuel (k+1) (listed.setIfInBounds k true)
def N6(cls:Op→Cls)(ops:Array Oper):Bool:=Qm .any ops&&L3 cls .any ops ops.size 0 (Array.replicate ops.size false)
theorem V0{cls:Op→Cls}{md:Region.Mode}{ops:Array Oper}{listed:Array Bool}{k:Nat}{ok:Oper}(hk:ops[k]? = some ok)(h:Oi cls md ops listed k=true):
  ∀(j:Nat) oj,ops[j]? = some oj→j≠k→listed.getD j true=false→(∀n,Cs md ops k n j=false)→GM cls ops ok oj=true:=by
 intro j oj hj hne hun hno;unfold Oi at h;rw[hk]at h;simp only at h
 have hlt:j<ops.size:=(Array.getElem?_eq_some_iff.1 hj).1
 have h1:=(List.all_eq_true.1 h) j (List.mem_range.2 hlt);rw[hj]at h1;simp only[Bool.or_eq_true,beq_iff_eq]at h1;rcases h1 with((h1|h1)|h1)|h1
 ·exact absurd h1 hne
 ·rw[hun]at h1;cases h1
 ·rw[hno 8]at h1;cases h1
 ·exact h1
section
variable {P:Program} {N N0:Nat} {w0:World} {g0:Gh} {pf rf:List FuncId}
theorem Sp{cls:Op→Cls}{md:Region.Mode}{ops:Array Oper}{Q:Af→Ae→Prop}{i:Nat}{oi:Oper}{v:AV}(hi:ops[i]? = some oi):
  ∀(fuel:Nat) (listed:Array Bool) (e:Af) (S Si:Ae),
   (∀n j,Cs md ops i n j=true→listed.getD j true=false) →
   (∀(j:Nat) oj,ops[j]? = some oj→j≠i→listed.getD j true=false→(∀n,Cs md ops i n j=false)→GM cls ops oi oj=true) →
   i∈Region.ready md ops listed→JI P cls ops oi e S v Si →
   DL P cls md ops Q fuel (listed.setIfInBounds i true) (Pe.put e oi.dst v) Si→DL P cls md ops Q (fuel+1) listed e S:=by
 intro fuel;induction fuel with
 | zero=>
  intro listed e S Si _ _ hr hy H;refine⟨fun h=>(by rw[h]at hr;cases hr),fun j hj=>?_⟩
  by_cases hji:j=i
  ·subst hji;exact hy.xOp hi H
  ·have :=ready_mono hj hji
   rw[H.1]at this;cases this
 | succ fuel ih=>
  intro listed e S Si hinv hfree hr hy H;refine⟨fun h=>(by rw[h]at hr;cases hr),fun j hj=>?_⟩
  by_cases hji:j=i
  ·subst hji;exact hy.xOp hi H
  ·have h1:=H.2 j (ready_mono hj hji)
   have hnd:=Xf hinv hj hji;obtain⟨hjun,oj,hoj,hall⟩:=mem_ready.1 hj;have h2:=RY hoj (hfree j oj hoj hji hjun hnd) hy h1;have hinv':∀n k,Cs md ops i n k=true→(listed.setIfInBounds j true).getD k true=false:=fun n k hk=>by
    have hjk:j≠k:=fun e=>by rw[←e,hnd n]at hk;cases hk
    rw[getD_set_ne true hjk];exact hinv n k hk
   have hfree':∀(k:Nat) ok,ops[k]? = some ok→k≠i→(listed.setIfInBounds j true).getD k true=false →
     (∀n,Cs md ops i n k=false)→GM cls ops oi ok=true:=fun k ok hk hki hun hno=>by
    refine hfree k ok hk hki ?_ hno
    by_cases hjk:j=k
    ·subst hjk;exact hjun
    ·rw[getD_set_ne true hjk]at hun;exact hun
   refine RZ (fun e' S' h3=>?_) h2
   obtain⟨Si',h3,h4⟩:=h3;refine ih (listed.setIfInBounds j true) e' S' Si' hinv' hfree' (ready_mono hr (Ne.symm hji)) h3 ?_
   rw[Array.setIfInBounds_comm _ _ hji];exact h4
theorem Sf{cls:Op→Cls}{md:Region.Mode}{ops:Array Oper}{Q:Af→Ae→Prop}(hlate:Qm md ops=true):∀(l:List Oper) (k:Nat) (listed:Array Bool) (e:Af) (S:Ae),(∀j,l[j]? = ops[k+j]?) →
  (∀j,k≤j→j<ops.size→listed.getD j true=false)→listed.size=ops.size →
  L3 cls md ops l.length k listed=true→Da P cls ops Q l e S→DL P cls md ops Q l.length listed e S
 |[],_,_,_,_,_,_,_,hB,h=>⟨by simpa[L3] using hB,h⟩
 | o ::l,k,listed,e,S,hl,hun,hsz,hB,h=>by
  have h0:ops[k]? = some o:=by simpa using (hl 0).symm
  simp only[List.length_cons,L3,Bool.and_eq_true]at hB;obtain⟨⟨hr,hf⟩,hB'⟩:=hB;have hst:xOp P cls ops k (Da P cls ops Q l) e S:=by unfold xOp;simp only[h0];exact h
  obtain⟨v,S',hy,hK⟩:=O2 h0 hst;have hks:k<ops.size:=(Array.getElem?_eq_some_iff.1 h0).1
  refine Sp h0 l.length listed e S S' (fun n j hj=>?_) (V0 h0 hf) (by simpa using hr) hy
   (Sf hlate l (k+1) _ _ _ (fun j=>by have :=hl (j+1);simpa[Nat.add_assoc,Nat.add_comm 1 j] using this) (fun j h1 h2=>?_) (by simpa using hsz) hB' hK)
  ·refine hun j (Zej hlate k n j hj) ?_
   cases n with
   |zero=>unfold Cs at hj;have :=beq_iff_eq.1 hj;omega
   | succ n=>
    unfold Cs at hj;rw[Bool.or_eq_true]at hj;rcases hj with hj|hj
    ·have :=beq_iff_eq.1 hj;omega
    ·cases ho:ops[j]? with
     |none=>rw[ho]at hj;cases hj
     |some oj=>exact(Array.getElem?_eq_some_iff.1 ho).1
  ·rw[getD_set_ne true (by omega)]
   exact hun j (by omega) h2
theorem TM{ro:Option Nat}{cls:Op→Cls}{ops:Array Oper}{id:Nat}{Q:Af→Ae→Prop}{Q':Exit→Act→World→Prop}{e:Af}{S:Ae}{a:Act}{w:World}(hm:P.follows .mixedOrders=true)(hB:N6 cls ops=true)(hds:DF N ops=true)
  (hQ:∀e S a w,A1 N w0 g0 e S a w→Q e S→Q' .normal a w)(hc:A1 N w0 g0 e S a w)(h:Da P cls ops Q ops.toList e S):(Code.region id ops true).wpIn (wR ro) 0 P Q' a w:=by
 refine wpIn_region_any hm (HM ro (cls:=cls) hds hQ _ _ e S a _ (hc.draw _) ?_)
 simp only[N6,Bool.and_eq_true]at hB;have :=Sf (md:=.any) hB.1 ops.toList 0 (Array.replicate ops.size false) e S (by simp) (fun j _ hj=>by simp[hj]) (by simp) (by simpa using hB.2) h
 simpa using this
end
def F2(P:Program)(pf rf:List FuncId)(N:Nat):Code→Bool
 |.region _ ops draw=>DF N ops&&(!draw||N6 (Bp P pf rf) ops)
 |.seq a b=>F2 P pf rf N a&&F2 P pf rf N b
 |.cond _ a b=>F2 P pf rf N a&&F2 P pf rf N b
 |.block _ b=>F2 P pf rf N b
 |.loop b=>F2 P pf rf N b
 |_=>true
section
variable {P:Program} {N N0:Nat} {w0:World} {g0:Gh} {pf rf:List FuncId}
theorem Zi0{ro:Option Nat}(hm:P.follows .mixedOrders=true)(hN0:g0.nid=N0):∀(c:Code) (Q:AX→Af→Ae→Prop) (e:Af) (S:Ae) (a:Act) (w:World),F2 P pf rf N c=true→A1 N w0 g0 e S a w→AW P pf rf N0 (Ex c) Q e S→c.wpIn (wR ro) 0 P (Fs N w0 g0 Q) a w:=by
 intro c;induction c with
 |skip=>intro Q e S a w _ hc h;exact wpIn_skip ⟨e,S,hc,h⟩
 |label l=>intro Q e S a w _ hc h;exact wpIn_label ⟨e,S,hc,h⟩
 |ret=>intro Q e S a w _ hc h;exact wpIn_ret ⟨e,S,hc,h⟩
 |exit id=>intro Q e S a w _ hc h;exact wpIn_exit ⟨e,S,hc,h⟩
 |region id ops draw=>
  intro Q e S a w hok hc h;simp only[F2,Bool.and_eq_true]at hok;simp only[Ex,CN,AW]at h;have hL:=FM ops.toList e S h;have hQ:∀e S a w,A1 N w0 g0 e S a w→Q .norm e S→Fs N w0 g0 Q .normal a w:=fun e S a w hc hq=>⟨e,S,hc,hq⟩
  cases draw with
  |false=>exact NN hok.1 hQ hc hL ro
  |true=>exact TM hm (by simpa using hok.2) hok.1 hQ hc hL
 |seq x y ihx ihy=>
  intro Q e S a w hok hc h;simp only[F2,Bool.and_eq_true]at hok;simp only[Ex,CN,AW]at h;refine wpIn_seq (Go.wpIn_mono (ihx _ e S a w hok.1 hc h) ?_)
  intro ex a' w' hq;cases ex with
  |normal=>obtain⟨e',S',hc',h'⟩:=hq;exact ihy Q e' S' a' w' hok.2 hc' h'
  |exit id=>exact hq
  |ret=>exact hq
  |_=>exact hq.elim
 | cond c x y ihx ihy=>
  intro Q e S a w hok hc h;simp only[F2,Bool.and_eq_true]at hok;simp only[Ex,CN,AW]at h;split at h
  ·rename_i b hb
   have hcb:a.eval c=.bool b:=by
    obtain⟨_,_,g,_,h4,_⟩:=hc;have :=Kr h4 c;rw[hb]at this;cases hv:a.eval c<;>rw[hv]at this<;>cases this
    rfl
   refine wpIn_cond_split hcb (fun ht=>ihx Q e S a w hok.1 hc (h.1 ht)) (fun hf=>ihy Q e S a w hok.2 hc (h.2 hf))
  ·exact h.elim
 | block id c ih=>
  intro Q e S a w hok hc h;simp only[Ex,CN,AW]at h;refine wpIn_block (Go.wpIn_mono (ih _ e S a w hok hc h) ?_)
  intro ex a' w' hq;cases ex with
  |normal=>exact hq
  |exit i=>
   obtain⟨e',S',hc',h'⟩:=hq;simp only[ET]at h';simp only[Exit.inBlock];by_cases hi:i=id
   ·rw[if_pos hi]at h' ⊢;exact⟨e',S',hc',h'⟩
   ·rw[if_neg hi]at h' ⊢;exact⟨e',S',hc',h'⟩
  |ret=>exact hq
  |_=>exact hq.elim
 | loop c ih=>
  intro Q e S a w hok hc h;simp only[Ex,CN,AW]at h;obtain⟨I,⟨n,e',S',hwk,hI⟩,hround⟩:=h;refine KO (fun n a w=>∃e S,A1 N w0 g0 e S a w∧I n e S) n ⟨e',S',hwk N w0 g0 a w hN0 hc,hI⟩ ?_
  rintro n a w ⟨e,S,hc,hI⟩
  refine Go.wpIn_mono (ih _ e S a w hok hc (hround n e S hI)) ?_
  intro ex a' w' hq;cases ex with
  |normal=>
   obtain⟨e1,S1,hc1,n',e2,S2,hlt,hwk',hI'⟩:=hq;exact⟨n',hlt,e2,S2,hwk' N w0 g0 a' w' hN0 hc1,hI'⟩
  |exit i=>exact hq
  |ret=>exact hq
  |_=>exact hq.elim
 |_=>intro Q e S a w _ _ h;exact h.elim
end
section
variable {P:Program}
theorem AC.enter2{f:FuncId}{fn:Func}{c:Code}{args:List AV}{S S':Ae}{v:AV}(pf rf:List FuncId)(hf:P.funcs[f]? = some fn)(hb:fn.body=some c)(hname:fn.name ≠ "runtime.NumGoroutine")(hm:P.follows .mixedOrders=true)
  (hn:args.length≤fn.ntmps)(hok:F2 P pf rf fn.ntmps c=true)(h:AW P pf rf S.length (Ex c) (Dr P fn.results.toList S.length v S') (Fi args) S):AC P f args S v S':=by
 exact AC.of_wp hf hb hname hn fun w g a hg hc=>Zi0 hm hg c _ (Fi args) S a w hok hc h
end
end Pe
namespace Pe
open Go Go.RowKit
set_option maxRecDepth 100000
theorem Ar{P:Program}[Tab]{f:FuncId}{fn:Func}{c:Code}{args:List AV}{S S':Ae}{v:AV}(pf rf:List FuncId)(hf:P.funcs[f]? = some fn){B:Prop}(h:B)(hb:fn.body=some c:=by rfl)(hname:fn.name ≠ "runtime.NumGoroutine" :=by decide)(hm:P.follows .mixedOrders=true:=by decide)(hn:args.length≤fn.ntmps:=by exact Nat.le_of_ble_eq_true rfl)(hok:Fh P pf rf fn.ntmps c=true:=by kernel_rfl)(e:AW P pf rf S.length (Ex c) (Dr P fn.results.toList S.length v S') (Fi args) S=B:=by
    conv=>
      lhs
      simp only[Ex,CN,DC,List.map_cons,List.map_nil,List.map_toArray,List.getElem?_toArray,List.getElem?_cons_zero,List.getElem?_cons_succ,Option.bind_some,Option.bind_none,List.append_eq,List.cons_append,List.nil_append]):AC P f args S v S':=AC.enter pf rf hf hb hname hm hn hok (e▸h)
theorem Ah{P:Program}[Tab]{f:FuncId}{fn:Func}{c:Code}{args:List AV}{S S':Ae}{v:AV}(pf rf:List FuncId)(hf:P.funcs[f]? = some fn){B:Prop}(h:B)(hb:fn.body=some c:=by rfl)(hname:fn.name ≠ "runtime.NumGoroutine" :=by decide)(hm:P.follows .mixedOrders=true:=by decide)(hn:args.length≤fn.ntmps:=by exact Nat.le_of_ble_eq_true rfl)(hok:F2 P pf rf fn.ntmps c=true:=by kernel_rfl)(e:AW P pf rf S.length (Ex c) (Dr P fn.results.toList S.length v S') (Fi args) S=B:=by
    conv=>
      lhs
      simp only[Ex,CN,DC,List.map_cons,List.map_nil,List.map_toArray,List.getElem?_toArray,List.getElem?_cons_zero,List.getElem?_cons_succ,Option.bind_some,Option.bind_none,List.append_eq,List.cons_append,List.nil_append]):AC P f args S v S':=AC.enter2 pf rf hf hb hname hm hn hok (e▸h)
end Pe
end
section
namespace Pe
open Go Go.RowKit
variable [Tab]
def JM(md:Region.Mode)(ops:Array Oper)(listed:Array Bool):Prop:=
 ∀(j:Nat) oj,ops[j]? = some oj→listed.getD j true=true → ∀e∈oj.after,Region.binds md e=true→listed.getD e.on true=true
theorem Xe{md:Region.Mode}{ops:Array Oper}{k:Nat}{listed:Array Bool}(hc:JM md ops listed)(hk:listed.getD k true=false):∀n j,Cs md ops k n j=true→listed.getD j true=false:=by
 intro n;induction n with
 |zero=>intro j hj;unfold Cs at hj;rw[beq_iff_eq.1 hj];exact hk
 | succ n ih=>
  intro j hj;unfold Cs at hj;rw[Bool.or_eq_true]at hj;rcases hj with hj|hj
  ·rw[beq_iff_eq.1 hj];exact hk
  ·cases ho:ops[j]? with
   |none=>rw[ho]at hj;cases hj
   | some oj=>
    rw[ho]at hj;simp only at hj
    rw[Array.any_eq_true']at hj;obtain⟨e,he,h2⟩:=hj;simp only[Bool.and_eq_true]at h2;have h3:=ih e.on h2.2;cases hl:listed.getD j true with
    |false=>rfl
    |true=>
     have :=hc j oj ho hl e he h2.1;rw[h3]at this;cases this
theorem XC{md:Region.Mode}{ops:Array Oper}{listed:Array Bool}{k:Nat}(hc:JM md ops listed)(hk:k∈Region.ready md ops listed):JM md ops (listed.setIfInBounds k true):=by
 intro j oj hj hl e he hb;obtain⟨_,ok,hok,hall⟩:=mem_ready.1 hk;have hmono:∀i,listed.getD i true=true→(listed.setIfInBounds k true).getD i true=true:=fun i hi=>by
  by_cases hik:k=i
  ·subst hik
   rw[Array.getD_eq_getD_getElem?,Array.getElem?_setIfInBounds]
   simp only[if_true];split<;>rfl
  ·rw[getD_set_ne true hik];exact hi
 refine hmono _ ?_
 by_cases hjk:k=j
 ·subst hjk
  rw[hok]at hj;cases hj
  have h1:=hall e he hb;rcases Nat.lt_or_ge e.on listed.size with h'|h'
  ·simp[h']at h1 ⊢;exact h1
  ·simp[Array.getElem?_eq_none h']at h1
 ·rw[getD_set_ne true hjk]at hl
  exact hc j oj hj hl e he hb
def L2(cls:Op→Cls)(md:Region.Mode)(ops:Array Oper):List Nat→Array Bool→Bool
 |[],listed=>(Region.ready md ops listed).isEmpty
 |k::r,listed=>(Region.ready md ops listed).contains k&&Oi cls md ops listed k&&L2 cls md ops r (listed.setIfInBounds k true)
def Qi(cls:Op→Cls)(ops:Array Oper)(ord:List Nat):Bool:=ord.length==ops.size&&L2 cls .any ops ord (Array.replicate ops.size false)
section
variable {P:Program} {N N0:Nat} {w0:World} {g0:Gh} {pf rf:List FuncId}
theorem Se{cls:Op→Cls}{md:Region.Mode}{ops:Array Oper}{Q:Af→Ae→Prop}:∀(l:List Nat) (listed:Array Bool) (e:Af) (S:Ae),JM md ops listed →
  L2 cls md ops l listed=true→Da P cls ops Q (l.filterMap fun i=>ops[i]?) e S→DL P cls md ops Q l.length listed e S
 |[],_,_,_,_,hB,h=>⟨by simpa[L2] using hB,h⟩
 |k::l,listed,e,S,hc,hB,h=>by
  simp only[L2,Bool.and_eq_true]at hB;obtain⟨⟨hr,hf⟩,hB'⟩:=hB;have hr:k∈Region.ready md ops listed:=by simpa using hr
  obtain⟨hun,o,h0,_⟩:=mem_ready.1 hr;rw[List.filterMap_cons,h0]at h;have hst:xOp P cls ops k (Da P cls ops Q (l.filterMap fun i=>ops[i]?)) e S:=by unfold xOp;simp only[h0];exact h
  obtain⟨v,S',hy,hK⟩:=O2 h0 hst;exact Sp h0 l.length listed e S S' (Xe hc hun) (V0 h0 hf) hr hy (Se l _ _ _ (XC hc hr) hB' hK)
theorem Zcz{ro:Option Nat}{cls:Op→Cls}{ops:Array Oper}{ord:List Nat}{id:Nat}{Q:Af→Ae→Prop}{Q':Exit→Act→World→Prop}{e:Af}{S:Ae}{a:Act}{w:World}(hm:P.follows .mixedOrders=true)(hB:Qi cls ops ord=true)(hds:DF N ops=true)
  (hQ:∀e S a w,A1 N w0 g0 e S a w→Q e S→Q' .normal a w)(hc:A1 N w0 g0 e S a w)(h:Da P cls ops Q (ord.filterMap fun i=>ops[i]?) e S):(Code.region id ops true).wpIn (wR ro) 0 P Q' a w:=by
 refine wpIn_region_any hm (HM ro (cls:=cls) hds hQ _ _ e S a _ (hc.draw _) ?_)
 simp only[Qi,Bool.and_eq_true,beq_iff_eq]at hB;have h0:JM .any ops (Array.replicate ops.size false):=fun j oj hj hl=>by
  have hlt:j<ops.size:=(Array.getElem?_eq_some_iff.1 hj).1
  simp[hlt]at hl
 have :=Se (md:=.any) ord (Array.replicate ops.size false) e S h0 hB.2 h;rw[hB.1]at this;exact this
end
def ER(P:Program)(pf rf:List FuncId)(N:Nat)(ord:List (Nat×List Nat)):Code→Bool
 |.region id ops draw=>DF N ops&&(match ord.lookup id with
  |none=>!draw||N6 (Bp P pf rf) ops
  |some l=>draw&&Qi (Bp P pf rf) ops l)
 |.seq a b=>ER P pf rf N ord a&&ER P pf rf N ord b
 |.cond _ a b=>ER P pf rf N ord a&&ER P pf rf N ord b
 |.block _ b=>ER P pf rf N ord b
 |.loop b=>ER P pf rf N ord b
 |_=>true
def Ew(ord:List (Nat×List Nat)):Code→CC
 |.skip=>.skip
 |.label _=>.skip
 |.region id ops _=>(match ord.lookup id with
  |none=>.reg (ops.toList.map (DC ops))
  |some l=>.reg ((l.filterMap fun i=>ops[i]?).map (DC ops)))
 |.seq a b=>.seq (Ew ord a) (Ew ord b)
 |.cond c a b=>.cond c (Ew ord a) (Ew ord b)
 |.block id b=>.block id (Ew ord b)
 |.loop b=>.loop (Ew ord b)
 |.exit id=>.exit id
 |.ret=>.ret
 |_=>.bad
section
variable {P:Program} {N N0:Nat} {w0:World} {g0:Gh} {pf rf:List FuncId} {ord:List (Nat×List Nat)}
theorem Zi{ro:Option Nat}(hm:P.follows .mixedOrders=true)(hN0:g0.nid=N0):∀(c:Code) (Q:AX→Af→Ae→Prop) (e:Af) (S:Ae) (a:Act) (w:World),ER P pf rf N ord c=true→A1 N w0 g0 e S a w→AW P pf rf N0 (Ew ord c) Q e S→c.wpIn (wR ro) 0 P (Fs N w0 g0 Q) a w:=by
 intro c;induction c with
 |skip=>intro Q e S a w _ hc h;exact wpIn_skip ⟨e,S,hc,h⟩
 |label l=>intro Q e S a w _ hc h;exact wpIn_label ⟨e,S,hc,h⟩
 |ret=>intro Q e S a w _ hc h;exact wpIn_ret ⟨e,S,hc,h⟩
 |exit id=>intro Q e S a w _ hc h;exact wpIn_exit ⟨e,S,hc,h⟩
 | region id ops draw=>
  intro Q e S a w hok hc h;have hQ:∀e S a w,A1 N w0 g0 e S a w→Q .norm e S→Fs N w0 g0 Q .normal a w:=fun e S a w hc hq=>⟨e,S,hc,hq⟩
  simp only[ER,Bool.and_eq_true]at hok;simp only[Ew]at h;cases ho:ord.lookup id with
  |none=>
   rw[ho]at hok h;simp only at hok h
   rw[AW]at h;have hL:=FM ops.toList e S h;cases draw with
   |false=>exact NN hok.1 hQ hc hL ro
   |true=>exact TM hm (by simpa using hok.2) hok.1 hQ hc hL
  |some l=>
   rw[ho]at hok h;simp only at hok h
   rw[AW]at h;have hL:=FM _ e S h;cases draw with
   |false=>simp at hok
   |true=>exact Zcz hm (by simpa using hok.2) hok.1 hQ hc hL
 |seq x y ihx ihy=>
  intro Q e S a w hok hc h;simp only[ER,Bool.and_eq_true]at hok;simp only[Ew,AW]at h;refine wpIn_seq (Go.wpIn_mono (ihx _ e S a w hok.1 hc h) ?_)
  intro ex a' w' hq;cases ex with
  |normal=>obtain⟨e',S',hc',h'⟩:=hq;exact ihy Q e' S' a' w' hok.2 hc' h'
  |exit id=>exact hq
  |ret=>exact hq
  |_=>exact hq.elim
 | cond c x y ihx ihy=>
  intro Q e S a w hok hc h;simp only[ER,Bool.and_eq_true]at hok;simp only[Ew,AW]at h;split at h
  ·rename_i b hb
   have hcb:a.eval c=.bool b:=by
    obtain⟨_,_,g,_,h4,_⟩:=hc;have :=Kr h4 c;rw[hb]at this;cases hv:a.eval c<;>rw[hv]at this<;>cases this
    rfl
   refine wpIn_cond_split hcb (fun ht=>ihx Q e S a w hok.1 hc (h.1 ht)) (fun hf=>ihy Q e S a w hok.2 hc (h.2 hf))
  ·exact h.elim
 | block id c ih=>
  intro Q e S a w hok hc h;simp only[Ew,AW]at h;refine wpIn_block (Go.wpIn_mono (ih _ e S a w hok hc h) ?_)
  intro ex a' w' hq;cases ex with
  |normal=>exact hq
  |exit i=>
   obtain⟨e',S',hc',h'⟩:=hq;simp only[ET]at h';simp only[Exit.inBlock];by_cases hi:i=id
   ·rw[if_pos hi]at h' ⊢;exact⟨e',S',hc',h'⟩
   ·rw[if_neg hi]at h' ⊢;exact⟨e',S',hc',h'⟩
  |ret=>exact hq
  |_=>exact hq.elim
 | loop c ih=>
  intro Q e S a w hok hc h;simp only[Ew,AW]at h;obtain⟨I,⟨n,e',S',hwk,hI⟩,hround⟩:=h;refine KO (fun n a w=>∃e S,A1 N w0 g0 e S a w∧I n e S) n ⟨e',S',hwk N w0 g0 a w hN0 hc,hI⟩ ?_
  rintro n a w ⟨e,S,hc,hI⟩
  refine Go.wpIn_mono (ih _ e S a w hok hc (hround n e S hI)) ?_
  intro ex a' w' hq;cases ex with
  |normal=>
   obtain⟨e1,S1,hc1,n',e2,S2,hlt,hwk',hI'⟩:=hq;exact⟨n',hlt,e2,S2,hwk' N w0 g0 a' w' hN0 hc1,hI'⟩
  |exit i=>exact hq
  |ret=>exact hq
  |_=>exact hq.elim
 |_=>intro Q e S a w _ _ h;exact h.elim
end
end Pe
namespace Pe
open Go Go.RowKit
variable [Tab]
def OT(P:Program)(t:TypeId)(S:Ae)(n:Nat)(qs:List (Nat×AV)):Option (AV×SObj):=
 match BI P t with
 |some (el,sz,_)=>if qs.map (·.1)=List.range' 0 n∧(qs.all fun q=>q.2.solid&&q.2.cells.length==sz)=true∧n*sz≤16777216∧0<sz∧(B0 P el).isSome=true then some (.wr S.length n none,.row (Ak (qs.map (·.2))) el sz)else none
 |none=>none
theorem ZgA{P:Program}{o:Oper}{e:Af}{S:Ae}{v:AV}{z:SObj}{t:TypeId}{n:Nat}{parts:Array (Nat×Operand)}(ho:o.op=.buildSlice t n parts)
  (h:OT P t S n (parts.toList.map fun p=>(p.1,ev e p.2))=some (v,z)):AU P o e S v (S++[z]):=
 C5 fun ρ w g hw hr=>by
  unfold OT at h;split at h
  ·rename_i el sz ag hs
   split at h
   ·rename_i hcond
    obtain⟨hq,hall,hn,hsz,hzs⟩:=hcond;cases h
    obtain⟨hu,hse⟩:=EE hs;obtain⟨z,hzz⟩:=Option.isSome_iff_exists.1 hzs;obtain⟨iz,zv,hz1,hz2,hz3,_⟩:=JO hzz;have hqs:∀q∈parts.toList.map (fun p=>(p.1,ev e p.2)),q.2.solid=true∧q.2.cells.length=sz:=fun q hq=>by
     have :=(List.all_eq_true.1 hall) q hq;simpa using this
    generalize hzero:(if n*sz=0 then(#[]:Array Value)else zv.cells)=zero at *
    have hzc:∀k:Nat,Value.oneCell' (zero[k]!)=true:=by
     intro k;rw[getElem!_def];split
     ·rename_i x hx
      rw[←hzero]at hx;split at hx
      ·simp at hx
      ·exact hz3 x (List.mem_iff_getElem?.2 ⟨k,by simpa using hx⟩)
     ·rfl
    have hc0:AM w g (List.replicate (n*sz) .junk) ((Array.range (n*sz)).map (zero[· % zero.size]!)):=by
     refine⟨by simp,fun v hv=>?_,fun j u v hu hv=>?_⟩
     ·simp only[Array.toList_map,List.mem_map]at hv
      obtain⟨k,_,rfl⟩:=hv;exact hzc _
     ·rw[List.getElem?_replicate]at hu
      split at hu
      ·cases hu;exact .junk _ _
      ·cases hu
    have hlen:(parts.toList.map (fun p=>(p.1,ev e p.2))).length=n:=by
     have :=congrArg List.length hq;simpa using this
    have hfill:=RD ((List.range n).map fun k=>(k*sz,sz)) sz (parts.toList.map fun p=>(p.1,ev e p.2)) 0 [] (by simp) (by rw[hlen];exact hq) hqs (fun i _ hi=>by
     rw[hlen]at hi;rw[List.getElem?_map,List.getElem?_range (by omega)]
     rfl)
    rw[hlen]at hfill;simp only[List.nil_append]at hfill;obtain⟨arr,h1,h2⟩:=MM (w:=w) (g:=g) ((List.range n).map fun k=>(k*sz,sz)) (fun k=>some (k*sz,sz)) (fun i p hp=>by
     rw[List.getElem?_map]at hp
     obtain⟨a,ha,rfl⟩:=Option.map_eq_some_iff.1 hp;obtain⟨hlt,he⟩:=List.getElem?_eq_some_iff.1 ha
     simp at he
     rw[he]) parts.toList e ρ _ _ _ hc0 (fun p hp=>hr p.2 (by rw[ho];simp only[Op.operands];exact List.mem_map.2 ⟨p,hp,rfl⟩)) hfill
    have hfl:(Ak ((parts.toList.map fun p=>(p.1,ev e p.2)).map (·.2))).length=n*sz:=by
     rw[FZ (sz:=sz) fun x hx=>by
      obtain⟨q,hq,rfl⟩:=List.mem_map.1 hx;exact(hqs q hq).2,List.length_map,hlen]
    have hmx:n≤maxLen:=by
     have:n≤n*sz:=Nat.le_mul_of_pos_right _ hsz;unfold maxLen;omega
    have has:arr.size=n*sz:=by rw[h2.1,hfl]
    obtain⟨g',h5,h6,h7⟩:=hw.new_row (n:=n) (cs:=Ak ((parts.toList.map fun p=>(p.1,ev e p.2)).map (·.2))) (cur:=arr) (e:=el) (sz:=sz) (cap:=n) (fr:=(0,0)) hsz hfl (Nat.le_refl _) hmx has (Nat.le_refl _) arr.toList (by simpa using h2) (by rw[List.take_of_length_le (by simp)])
    refine⟨.slice (some ⟨w.heap.size,0,none⟩) n n,_,g',?_,h5,h7,h6⟩
    have h1':Instr.fill (fun k=>some (k*sz,sz)) ((Array.range (n*sz)).map (zero[· % zero.size]!)) ((parts.map fun(i,x)=>(i,ρ x)).toList)=some arr:=by
     rw[←h1];simp
    unfold execOp;simp only[ho,Instr.buildSlice,Sem.run_bind,run_underlying hu,Result.andThen_ok,run_sizeOf hse];have hnn:¬n*sz>2^24:=by omega
    simp only[if_neg hnn];by_cases h0:n*sz=0
    ·rw[if_pos h0]at hzero
     subst hzero;simp only[if_pos h0,Sem.run_bind,Sem.run_pure,Result.andThen_ok,h1',newRow,newObj,Sem.run];rfl
    ·rw[if_neg h0]at hzero
     subst hzero;have hzv:(zeroValue el).run P w=.ok zv w:=by simp[zeroValue,typeInfo,hz1,hz2]
     simp only[if_neg h0,Sem.run_bind,hzv,Sem.run_pure,Result.andThen_ok,h1',newRow,newObj,Sem.run];rfl
   ·cases h
  ·cases h
def keeps(Kp:List Nat)(S S':Ae):Prop:=∀k∈Kp,S'[k]? = S[k]?
inductive K4 where
 |rp|wr|al|ot
def FW(lp wp:List Nat)(d:Option Nat)(op:Op):K4:=match d with
 | some d=>if lp.contains d then .rp else if wp.contains d then(match op with
   |.call c=>(match c.callee with
    |.builtin _=>.al
    |_=>.wr)
   |.buildSlice .. =>.al
   |_=>.wr)else match op with
  |.alloc _=>.al
  |_=>.ot
 |none=>.ot
inductive K5 where
 |rp|wr|ap|ot
def Kl(lp wp:List Nat)(d:Option Nat)(op:Op):K5:=match FW lp wp d op with
 |.rp=>.rp
 |.wr=>.wr
 |.al=>(match op with
  |.call _=>.ap
  |.buildSlice .. =>.ap
  |_=>.ot)
 |.ot=>.ot
def B7(P:Program)(Kp lp wp:List Nat)(cls:Op→Cls)(o:Oper)(e:Af)(S:Ae)(v:AV)(S':Ae):Prop:=
 match FW lp wp o.dst o.op with
 |.rp=>S'=S ∧ ∃k∈Kp,∀S2:Ae,S2[k]? = S[k]? → AU P o e S2 v S2
 |.wr=>S'.length=S.length∧keeps Kp S S' ∧ ∀R,AU P o e (S++R) v (S'++R)
 |.al=>(∃z,S'=S++[z] ∧ ∀S2:Ae,S2.length=S.length→AU P o e S2 v (S2++[z]))∧keeps Kp S S'
 |.ot=>Cl P (cls o.op) o e S v S'∧keeps Kp S S'
theorem B7.does{P:Program}{Kp lp wp:List Nat}{cls:Op→Cls}{o:Oper}{e:Af}{S S':Ae}{v:AV}(h:B7 P Kp lp wp cls o e S v S'):AU P o e S v S':=by
 unfold B7 at h;split at h
 ·obtain⟨rfl,k,_,h⟩:=h;exact h _ rfl
 ·have :=h.2.2 [];simpa using this
 ·obtain⟨⟨z,rfl,h⟩,_⟩:=h;exact h _ rfl
 ·exact h.1.does
theorem B7.keeps{P:Program}{Kp lp wp:List Nat}{cls:Op→Cls}{o:Oper}{e:Af}{S S':Ae}{v:AV}(h:B7 P Kp lp wp cls o e S v S'):keeps Kp S S':=by
 unfold B7 at h;split at h
 ·obtain⟨rfl,_⟩:=h;exact fun _ _=>rfl
 ·exact h.2.1
 ·exact h.2
 ·exact h.2
theorem B7.put{P:Program}{Kp lp wp:List Nat}{cls:Op→Cls}{o:Oper}{e:Af}{S S':Ae}{v:AV}{ops:Array Oper}{dst:Option Nat}{u:AV}(h:∀d,dst=some d→d∉o.looksAt ops):B7 P Kp lp wp cls o (Pe.put e dst u) S v S'↔B7 P Kp lp wp cls o e S v S':=by
 unfold B7;split
 ·exact and_congr Iff.rfl (exists_congr fun k=>and_congr Iff.rfl (forall_congr' fun S2=>imp_congr Iff.rfl (AU.put h)))
 ·exact and_congr Iff.rfl (and_congr Iff.rfl (forall_congr' fun R=>AU.put h))
 ·exact and_congr (exists_congr fun z=>and_congr Iff.rfl (forall_congr' fun S2=>imp_congr Iff.rfl (AU.put h))) Iff.rfl
 ·exact and_congr (Cl.put h) Iff.rfl
def If(lp wp:List Nat)(cls:Op→Cls)(ops:Array Oper)(x y:Oper):Bool:=
 x.apart ops y&&(match FW lp wp x.dst x.op,FW lp wp y.dst y.op with
  |.rp,_=>true
  |_,.rp=>true
  |.wr,.al=>true
  |.wr,.ot=>(match cls y.op with |.free=>true|_=>false)
  |.al,.ot=>(match cls y.op with |.free=>true|_=>false)
  |.ot,.wr=>(match cls x.op with |.free=>true|_=>false)
  |.ot,.al=>(match cls x.op with |.free=>true|.read=>true|_=>false)
  |.ot,.ot=>(match cls x.op,cls y.op with
   |.free,_=>true
   |_,.free=>true
   |.read,.read=>true
   |.read,.fresh=>true
   |_,_=>false)
  |_,_=>false)
theorem B7.swap{P:Program}{Kp lp wp:List Nat}{cls:Op→Cls}{ops:Array Oper}{oi oj:Oper}{e:Af}{S Si Sj:Ae}{v u:AV}(hap:If lp wp cls ops oi oj=true)(hi:B7 P Kp lp wp cls oi e S v Si)(hj:B7 P Kp lp wp cls oj e Si u Sj):
  ∃Sm,B7 P Kp lp wp cls oj e S u Sm∧B7 P Kp lp wp cls oi e Sm v Sj:=by
 have hki:=hi.keeps;have hkj:=hj.keeps;simp only[If,Bool.and_eq_true]at hap;have hcls:=hap.2;unfold B7 at hi hj ⊢;cases hri:FW lp wp oi.dst oi.op with
 |rp=>
  simp only[hri]at hi hj ⊢;obtain⟨rfl,k,hk,hi⟩:=hi;exact⟨Sj,hj,rfl,k,hk,fun S2 h2=>hi S2 (h2.trans (hkj k hk))⟩
 | wr=>
  cases hrj:FW lp wp oj.dst oj.op with
  |rp=>
   simp only[hri,hrj]at hi hj ⊢;obtain⟨rfl,k,hk,hj⟩:=hj;exact⟨S,⟨rfl,k,hk,fun S2 h2=>hj S2 (h2.trans (hki k hk).symm)⟩,hi⟩
  |wr=>rw[hri,hrj]at hcls;cases hcls
  | al=>
   simp only[hri,hrj]at hi hj ⊢;obtain⟨hl,_,hi⟩:=hi;obtain⟨⟨z,rfl,hj⟩,_⟩:=hj;have h1:Pe.keeps Kp S (S++[z]):=fun k hk=>by
    have h1:=hkj k hk;rcases Nat.lt_trichotomy k S.length with hlt|heq|hgt
    ·rw[List.getElem?_append_left hlt]
    ·exfalso
     rw[heq,←hl,List.getElem?_append_right (Nat.le_refl _),Nat.sub_self,List.getElem?_eq_none (Nat.le_refl _)]at h1
     cases h1
    ·rw[List.getElem?_eq_none (by simp;omega),List.getElem?_eq_none (by omega)]
   have hS:Pe.keeps Kp S (S++[z])∧Pe.keeps Kp (S++[z]) (Si++[z]):=⟨h1,fun k hk=>by rw[hkj k hk,hki k hk,h1 k hk]⟩
   refine⟨S++[z],⟨⟨z,rfl,fun S2 h2=>hj S2 (by omega)⟩,hS.1⟩,by simp[hl],hS.2,fun R=>?_⟩
   rw[List.append_assoc,List.append_assoc];exact hi _
  | ot=>
   simp only[hri,hrj]at hi hj hcls ⊢;obtain⟨hl,hk,hi⟩:=hi;cases hcj:cls oj.op with
   |free=>
    rw[hcj]at hj;obtain⟨⟨rfl,hj⟩,_⟩:=hj;exact⟨S,⟨⟨rfl,hj⟩,fun _ _=>rfl⟩,hl,hk,hi⟩
   |read=>rw[hcj]at hcls;cases hcls
   |fresh=>rw[hcj]at hcls;cases hcls
   |write=>rw[hcj]at hcls;cases hcls
 | al=>
  cases hrj:FW lp wp oj.dst oj.op with
  |rp=>
   simp only[hri,hrj]at hi hj ⊢;obtain⟨rfl,k,hk,hj⟩:=hj;exact⟨S,⟨rfl,k,hk,fun S2 h2=>hj S2 (h2.trans (hki k hk).symm)⟩,hi⟩
  |wr=>rw[hri,hrj]at hcls;cases hcls
  |al=>rw[hri,hrj]at hcls;cases hcls
  | ot=>
   simp only[hri,hrj]at hi hj hcls ⊢;cases hcj:cls oj.op with
   |free=>
    rw[hcj]at hj;obtain⟨⟨rfl,hj⟩,_⟩:=hj;exact⟨S,⟨⟨rfl,hj⟩,fun _ _=>rfl⟩,hi⟩
   |read=>rw[hcj]at hcls;cases hcls
   |fresh=>rw[hcj]at hcls;cases hcls
   |write=>rw[hcj]at hcls;cases hcls
 | ot=>
  cases hrj:FW lp wp oj.dst oj.op with
  |rp=>
   simp only[hri,hrj]at hi hj ⊢;obtain⟨rfl,k,hk,hj⟩:=hj;exact⟨S,⟨rfl,k,hk,fun S2 h2=>hj S2 (h2.trans (hki k hk).symm)⟩,hi⟩
  | wr=>
   simp only[hri,hrj]at hi hj hcls ⊢;cases hci:cls oi.op with
   |free=>
    rw[hci]at hi;obtain⟨⟨rfl,hi⟩,_⟩:=hi;exact⟨Sj,hj,⟨rfl,hi⟩,fun _ _=>rfl⟩
   |read=>rw[hci]at hcls;cases hcls
   |fresh=>rw[hci]at hcls;cases hcls
   |write=>rw[hci]at hcls;cases hcls
  | al=>
   simp only[hri,hrj]at hi hj hcls ⊢;cases hci:cls oi.op with
   |free=>
    rw[hci]at hi;obtain⟨⟨rfl,hi⟩,_⟩:=hi;exact⟨Sj,hj,⟨rfl,hi⟩,fun _ _=>rfl⟩
   |read=>
    rw[hci]at hi;obtain⟨⟨rfl,hi⟩,_⟩:=hi;obtain⟨⟨z,rfl,hj⟩,hk⟩:=hj;exact⟨_,⟨⟨z,rfl,hj⟩,hk⟩,⟨rfl,fun R'=>by rw[List.append_assoc];exact hi _⟩,fun _ _=>rfl⟩
   |fresh=>rw[hci]at hcls;cases hcls
   |write=>rw[hci]at hcls;cases hcls
  | ot=>
   simp only[hri,hrj]at hi hj hcls ⊢;obtain⟨hi,_⟩:=hi;obtain⟨hj,_⟩:=hj;cases hci:cls oi.op with
   |free=>
    rw[hci]at hi;obtain⟨rfl,hi⟩:=hi;exact⟨Sj,⟨hj,hkj⟩,⟨rfl,hi⟩,fun _ _=>rfl⟩
   | read=>
    rw[hci]at hi;obtain⟨rfl,hi⟩:=hi;cases hcj:cls oj.op with
    |free=>
     rw[hcj]at hj;obtain⟨rfl,hj⟩:=hj;exact⟨_,⟨⟨rfl,hj⟩,hkj⟩,⟨rfl,hi⟩,fun _ _=>rfl⟩
    |read=>
     rw[hcj]at hj;obtain⟨rfl,hj⟩:=hj;exact⟨_,⟨⟨rfl,hj⟩,hkj⟩,⟨rfl,hi⟩,fun _ _=>rfl⟩
    |fresh=>
     rw[hcj]at hj;obtain⟨⟨R,rfl⟩,hj⟩:=hj;exact⟨_,⟨⟨⟨R,rfl⟩,hj⟩,hkj⟩,⟨rfl,fun R'=>by rw[List.append_assoc];exact hi (R++R')⟩,fun _ _=>rfl⟩
    |write=>rw[hci,hcj]at hcls;cases hcls
   | fresh=>
    rw[hci]at hi;cases hcj:cls oj.op with
    |free=>
     rw[hcj]at hj;obtain⟨rfl,hj⟩:=hj;exact⟨_,⟨⟨rfl,hj⟩,fun _ _=>rfl⟩,hi,hki⟩
    |read=>rw[hci,hcj]at hcls;cases hcls
    |fresh=>rw[hci,hcj]at hcls;cases hcls
    |write=>rw[hci,hcj]at hcls;cases hcls
   | write=>
    rw[hci]at hi;cases hcj:cls oj.op with
    |free=>
     rw[hcj]at hj;obtain⟨rfl,hj⟩:=hj;exact⟨_,⟨⟨rfl,hj⟩,fun _ _=>rfl⟩,hi,hki⟩
    |read=>rw[hci,hcj]at hcls;cases hcls
    |fresh=>rw[hci,hcj]at hcls;cases hcls
    |write=>rw[hci,hcj]at hcls;cases hcls
section
variable {P:Program} {N N0:Nat} {w0:World} {g0:Gh} {pf rf:List FuncId} {Kp lp wp:List Nat}
def xOp4(P:Program)(Kp lp wp:List Nat)(cls:Op→Cls)(ops:Array Oper)(i:Nat)(K:Af→Ae→Prop)(e:Af)(S:Ae):Prop:=
 match ops[i]? with
 |none=>K e S
 |some o=>match Cc ops o e with
  |some true=>∃v S',B7 P Kp lp wp cls o e S v S'∧K (Pe.put e o.dst v) S'
  |some false=>K (Pe.put e o.dst (.tup [])) S
  |none=>False
theorem Z5{cls:Op→Cls}{ops:Array Oper}{i:Nat}{K K':Af→Ae→Prop}{e:Af}{S:Ae}(h:∀e S,K e S→K' e S)(hh:xOp4 P Kp lp wp cls ops i K e S):xOp4 P Kp lp wp cls ops i K' e S:=by
 unfold xOp4 at *;split
 ·rename_i ho;simp only[ho]at hh;exact h _ _ hh
 ·rename_i o ho
  simp only[ho]at hh;split
  ·rename_i hw;simp only[hw]at hh;obtain⟨v,S',h1,h2⟩:=hh;exact⟨v,S',h1,h _ _ h2⟩
  ·rename_i hw;simp only[hw]at hh;exact h _ _ hh
  ·rename_i hw;simp only[hw]at hh
def KN(P:Program)(Kp lp wp:List Nat)(cls:Op→Cls)(md:Region.Mode)(ops:Array Oper)(Q:Af→Ae→Prop):Nat→Array Bool→Af→Ae→Prop
 |0,listed,e,S=>Region.ready md ops listed=[]∧Q e S
 |fuel+1,listed,e,S=>
  (Region.ready md ops listed=[]→Q e S) ∧
  ∀i∈Region.ready md ops listed,xOp4 P Kp lp wp cls ops i (KN P Kp lp wp cls md ops Q fuel (listed.setIfInBounds i true)) e S
theorem M4{ro:Option Nat}{cls:Op→Cls}{md:Region.Mode}{ops:Array Oper}(hds:DF N ops=true){Q:Af→Ae→Prop}{Q':Exit→Act→World→Prop}(hQ:∀e S a w,A1 N w0 g0 e S a w→Q e S→Q' .normal a w):
  ∀(fuel:Nat) (listed:Array Bool) (e:Af) (S:Ae) (a:Act) (w:World),A1 N w0 g0 e S a w→KN P Kp lp wp cls md ops Q fuel listed e S→wpAnyIn (wR ro) 0 P md ops Q' fuel listed a w
 |0,_,e,S,a,w,hc,h=>⟨h.1,hQ e S a w hc h.2⟩
 | fuel+1,listed,e,S,a,w,hc,h=>⟨fun h0=>hQ e S a w hc (h.1 h0),fun i hi=>by
  have hx:=h.2 i hi;unfold xOp4 at hx;unfold wpOpIn;split
  ·rename_i ho;simp only[ho]at hx;exact M4 hds hQ fuel _ e S a w hc hx
  ·rename_i o ho
   simp only[ho]at hx;have hd:=Ox hds ho;have her:∃g,DK w g e a:=by obtain⟨_,_,g,_,h4,_⟩:=hc;exact⟨g,h4⟩
   obtain⟨g,her⟩:=her;split at hx
   ·rename_i hw
    rw[Iw her hw];obtain⟨v,S',h1,h2⟩:=hx;simp only[if_true];exact hc.does hd h1.does (fun a' w' hc'=>M4 hds hQ fuel _ _ _ a' w' hc' h2) ro
   ·rename_i hw
    rw[Iw her hw];simp only[Bool.false_eq_true,if_false];exact⟨fun _ _=>trivial,M4 hds hQ fuel _ _ _ _ w (hc.skip hd) hx⟩
   ·exact hx.elim⟩
def KE(P:Program)(Kp lp wp:List Nat)(cls:Op→Cls)(ops:Array Oper)(o:Oper)(e:Af)(S:Ae)(v:AV)(S':Ae):Prop:=
 (Cc ops o e=some true∧B7 P Kp lp wp cls o e S v S')∨(Cc ops o e=some false∧v=.tup []∧S'=S)
theorem KE.xOp4{cls:Op→Cls}{ops:Array Oper}{i:Nat}{o:Oper}{e:Af}{S S':Ae}{v:AV}(hi:ops[i]? = some o)(hy:KE P Kp lp wp cls ops o e S v S'){K:Af→Ae→Prop}(h:K (Pe.put e o.dst v) S'):xOp4 P Kp lp wp cls ops i K e S:=by
 unfold Pe.xOp4;simp only[hi];rcases hy with⟨hw,hx⟩|⟨hw,rfl,rfl⟩
 ·simp only[hw];exact⟨v,S',hx,h⟩
 ·simp only[hw];exact h
theorem Z3{cls:Op→Cls}{ops:Array Oper}{i:Nat}{o:Oper}{e:Af}{S:Ae}{K:Af→Ae→Prop}(hi:ops[i]? = some o)(h:xOp4 P Kp lp wp cls ops i K e S):∃v S',KE P Kp lp wp cls ops o e S v S'∧K (Pe.put e o.dst v) S':=by
 unfold xOp4 at h;simp only[hi]at h;split at h
 ·rename_i hw;obtain⟨v,S',h1,h2⟩:=h;exact⟨v,S',.inl ⟨hw,h1⟩,h2⟩
 ·rename_i hw;exact⟨.tup [],S,.inr ⟨hw,rfl,rfl⟩,h⟩
 ·exact h.elim
theorem Z4{cls:Op→Cls}{ops:Array Oper}{j:Nat}{oi oj:Oper}{v:AV}{e:Af}{S Si:Ae}(hj:ops[j]? = some oj)(hap:If lp wp cls ops oi oj=true){K:Af→Ae→Prop}
  (hy:KE P Kp lp wp cls ops oi e S v Si)(h:xOp4 P Kp lp wp cls ops j K (Pe.put e oi.dst v) Si):
  xOp4 P Kp lp wp cls ops j (fun e' S'=>∃Si',KE P Kp lp wp cls ops oi e' S' v Si'∧K (Pe.put e' oi.dst v) Si') e S:=by
 have hap0:=hap;simp only[If,Bool.and_eq_true]at hap;obtain⟨h1,h2,h3⟩:=Oper.apart_spec hap.1;have keep:∀u,Cc ops oi (Pe.put e oj.dst u)=Cc ops oi e:=fun u=>OS h3
 unfold xOp4 at *;simp only[hj]at *;rw[OS h1]at h;split
 ·rename_i hw
  simp only[hw]at h;obtain⟨u,Sj,hu,hn⟩:=h;rw[B7.put h1]at hu;rcases hy with⟨hwi,hx⟩|⟨hwi,rfl,rfl⟩
  ·obtain⟨Sm,a1,a2⟩:=B7.swap hap0 hx hu
   exact⟨u,Sm,a1,Sj,.inl ⟨by rw[keep];exact hwi,(B7.put h3).2 a2⟩,by rw[←Gg e v u h2];exact hn⟩
  ·exact⟨u,Sj,hu,Sj,.inr ⟨by rw[keep];exact hwi,rfl,rfl⟩,by rw[←Gg e _ u h2];exact hn⟩
 ·rename_i hw
  simp only[hw]at h;refine⟨Si,?_,by rw[←Gg e v _ h2];exact h⟩
  rcases hy with⟨hwi,hx⟩|⟨hwi,rfl,rfl⟩
  ·exact .inl ⟨by rw[keep];exact hwi,(B7.put h3).2 hx⟩
  ·exact .inr ⟨by rw[keep];exact hwi,rfl,rfl⟩
 ·rename_i hw
  simp only[hw]at h
def CE(P:Program)(Kp lp wp:List Nat)(cls:Op→Cls)(ops:Array Oper)(Q:Af→Ae→Prop):List Oper→Af→Ae→Prop
 |[],e,S=>Q e S
 |o::rest,e,S=>match Cc ops o e with
  |some true=>∃v S',B7 P Kp lp wp cls o e S v S'∧CE P Kp lp wp cls ops Q rest (Pe.put e o.dst v) S'
  |some false=>CE P Kp lp wp cls ops Q rest (Pe.put e o.dst (.tup [])) S
  |none=>False
def QI(lp wp:List Nat)(cls:Op→Cls)(md:Region.Mode)(ops:Array Oper)(listed:Array Bool)(k:Nat):Bool:=
 match ops[k]? with
 |none=>false
 |some ok=>(List.range ops.size).all fun j=>
  match ops[j]? with
  |none=>true
  |some oj=>j==k||listed.getD j true||Cs md ops k 8 j||If lp wp cls ops ok oj
theorem ZfC{cls:Op→Cls}{md:Region.Mode}{ops:Array Oper}{listed:Array Bool}{k:Nat}{ok:Oper}(hk:ops[k]? = some ok)(h:QI lp wp cls md ops listed k=true):
  ∀(j:Nat) oj,ops[j]? = some oj→j≠k→listed.getD j true=false→(∀n,Cs md ops k n j=false)→If lp wp cls ops ok oj=true:=by
 intro j oj hj hne hun hno;unfold QI at h;rw[hk]at h;simp only at h
 have hlt:j<ops.size:=(Array.getElem?_eq_some_iff.1 hj).1
 have h1:=(List.all_eq_true.1 h) j (List.mem_range.2 hlt);rw[hj]at h1;simp only[Bool.or_eq_true,beq_iff_eq]at h1;rcases h1 with((h1|h1)|h1)|h1
 ·exact absurd h1 hne
 ·rw[hun]at h1;cases h1
 ·rw[hno 8]at h1;cases h1
 ·exact h1
theorem Zae{cls:Op→Cls}{md:Region.Mode}{ops:Array Oper}{Q:Af→Ae→Prop}{i:Nat}{oi:Oper}{v:AV}(hi:ops[i]? = some oi):
  ∀(fuel:Nat) (listed:Array Bool) (e:Af) (S Si:Ae),
   (∀n j,Cs md ops i n j=true→listed.getD j true=false) →
   (∀(j:Nat) oj,ops[j]? = some oj→j≠i→listed.getD j true=false→(∀n,Cs md ops i n j=false)→If lp wp cls ops oi oj=true) →
   i∈Region.ready md ops listed→KE P Kp lp wp cls ops oi e S v Si →
   KN P Kp lp wp cls md ops Q fuel (listed.setIfInBounds i true) (Pe.put e oi.dst v) Si→KN P Kp lp wp cls md ops Q (fuel+1) listed e S:=by
 intro fuel;induction fuel with
 | zero=>
  intro listed e S Si _ _ hr hy H;refine⟨fun h=>(by rw[h]at hr;cases hr),fun j hj=>?_⟩
  by_cases hji:j=i
  ·subst hji;exact hy.xOp4 hi H
  ·have :=ready_mono hj hji
   rw[H.1]at this;cases this
 | succ fuel ih=>
  intro listed e S Si hinv hfree hr hy H;refine⟨fun h=>(by rw[h]at hr;cases hr),fun j hj=>?_⟩
  by_cases hji:j=i
  ·subst hji;exact hy.xOp4 hi H
  ·have h1:=H.2 j (ready_mono hj hji)
   have hnd:=Xf hinv hj hji;obtain⟨hjun,oj,hoj,hall⟩:=mem_ready.1 hj;have h2:=Z4 hoj (hfree j oj hoj hji hjun hnd) hy h1;have hinv':∀n k,Cs md ops i n k=true→(listed.setIfInBounds j true).getD k true=false:=fun n k hk=>by
    have hjk:j≠k:=fun e=>by rw[←e,hnd n]at hk;cases hk
    rw[getD_set_ne true hjk];exact hinv n k hk
   have hfree':∀(k:Nat) ok,ops[k]? = some ok→k≠i→(listed.setIfInBounds j true).getD k true=false →
     (∀n,Cs md ops i n k=false)→If lp wp cls ops oi ok=true:=fun k ok hk hki hun hno=>by
    refine hfree k ok hk hki ?_ hno
    by_cases hjk:j=k
    ·subst hjk;exact hjun
    ·rw[getD_set_ne true hjk]at hun;exact hun
   refine Z5 (fun e' S' h3=>?_) h2
   obtain⟨Si',h3,h4⟩:=h3;refine ih (listed.setIfInBounds j true) e' S' Si' hinv' hfree' (ready_mono hr (Ne.symm hji)) h3 ?_
   rw[Array.setIfInBounds_comm _ _ hji];exact h4
def L1(lp wp:List Nat)(cls:Op→Cls)(md:Region.Mode)(ops:Array Oper):List Nat→Array Bool→Bool
 |[],listed=>(Region.ready md ops listed).isEmpty
 |k::r,listed=>(Region.ready md ops listed).contains k&&QI lp wp cls md ops listed k&&L1 lp wp cls md ops r (listed.setIfInBounds k true)
def L0(lp wp:List Nat)(cls:Op→Cls)(ops:Array Oper)(ord:List Nat):Bool:=ord.length==ops.size&&L1 lp wp cls .any ops ord (Array.replicate ops.size false)
theorem Sd{cls:Op→Cls}{md:Region.Mode}{ops:Array Oper}{Q:Af→Ae→Prop}:∀(l:List Nat) (listed:Array Bool) (e:Af) (S:Ae),JM md ops listed →
  L1 lp wp cls md ops l listed=true→CE P Kp lp wp cls ops Q (l.filterMap fun i=>ops[i]?) e S→KN P Kp lp wp cls md ops Q l.length listed e S
 |[],_,_,_,_,hB,h=>⟨by simpa[L1] using hB,h⟩
 |k::l,listed,e,S,hc,hB,h=>by
  simp only[L1,Bool.and_eq_true]at hB;obtain⟨⟨hr,hf⟩,hB'⟩:=hB;have hr:k∈Region.ready md ops listed:=by simpa using hr
  obtain⟨hun,o,h0,_⟩:=mem_ready.1 hr;rw[List.filterMap_cons,h0]at h;have hst:xOp4 P Kp lp wp cls ops k (CE P Kp lp wp cls ops Q (l.filterMap fun i=>ops[i]?)) e S:=by unfold xOp4;simp only[h0];exact h
  obtain⟨v,S',hy,hK⟩:=Z3 h0 hst;exact Zae h0 l.length listed e S S' (Xe hc hun) (ZfC h0 hf) hr hy (Sd l _ _ _ (XC hc hr) hB' hK)
theorem PM{ro:Option Nat}{cls:Op→Cls}{ops:Array Oper}{ord:List Nat}{id:Nat}{Q:Af→Ae→Prop}{Q':Exit→Act→World→Prop}{e:Af}{S:Ae}{a:Act}{w:World}(hm:P.follows .mixedOrders=true)(hB:L0 lp wp cls ops ord=true)(hds:DF N ops=true)
  (hQ:∀e S a w,A1 N w0 g0 e S a w→Q e S→Q' .normal a w)(hc:A1 N w0 g0 e S a w)(h:CE P Kp lp wp cls ops Q (ord.filterMap fun i=>ops[i]?) e S):(Code.region id ops true).wpIn (wR ro) 0 P Q' a w:=by
 refine wpIn_region_any hm (M4 (Kp:=Kp) (lp:=lp) (wp:=wp) (cls:=cls) hds hQ _ _ e S a _ (hc.draw _) ?_)
 simp only[L0,Bool.and_eq_true,beq_iff_eq]at hB;have h0:JM .any ops (Array.replicate ops.size false):=fun j oj hj hl=>by
  have hlt:j<ops.size:=(Array.getElem?_eq_some_iff.1 hj).1
  simp[hlt]at hl
 have :=Sd (md:=.any) ord (Array.replicate ops.size false) e S h0 hB.2 h;rw[hB.1]at this;exact this
end
inductive CD where
 |of (c:CC)|seq (a b:CD)|cond (c:Operand) (t f:CD)|block (id:Nat) (b:CD)|loop (b:CD)|spec (Kp lp wp:List Nat) (l:List AO)|weak (c:CD)|raw (ops:Array Oper)
def RF(N0:Nat)(e:Af)(S:Ae)(K:Af→Ae→Prop):Prop:=∃e' S',Ao N0 e S e' S'∧K e' S'
theorem IP{N0:Nat}{e:Af}{S:Ae}{K:Af→Ae→Prop}(h:K e S):RF N0 e S K:=⟨e,S,Ao.refl N0 e S,h⟩
def I7(Kp:List Nat)(op:Op)(e:Af):Bool:=match op with
 |.load _ x=>(match ev e x with
  |.ptr k _=>Kp.contains k
  |.pst _ _=>!Kp.isEmpty
  |_=>false)
 |_=>false
def ZiX(P:Program)(op:Op)(e:Af)(S:Ae)(v:AV)(S':Ae):Prop:=S'.length=S.length∧match op with
 |.call c=>(match c.callee with
  |.value (.func f)=>∀R,AC P f ((c.args.toList.map (ev e)).map AV.wk) (S++R) v (S'++R)
  |_=>False)
 |_=>False
def RI(P:Program)(op:Op)(e:Af)(S:Ae):Option (AV×SObj):=match op with
 | .call c=>(match c.callee with
  |.builtin .append=>(match c.args.toList,c.argTypes.toList with
   |[x,y],[t,u]=>MN P t u S (ev e x) (ev e y)
   |_,_=>none)
  |_=>none)
 |.buildSlice t n parts=>OT P t S n (parts.toList.map fun p=>(p.1,ev e p.2))
 |_=>none
def D6(P:Program)(pf rf:List FuncId)(Kp lp wp:List Nat):List AO→Af→Ae→(Af→Ae→Prop)→Prop
 |[],e,S,K=>K e S
 |o::rest,e,S,K=>o.gd=none∧match Kl lp wp o.dst o.op with
  |.rp=>BA P pf rf [⟨o.dst,o.op,none⟩] e S (fun e' S'=>I7 Kp o.op e=true∧D6 P pf rf Kp lp wp rest e' S' K)
  |.ap=>∃v z,RI P o.op e S=some (v,z)∧keeps Kp S (S++[z])∧D6 P pf rf Kp lp wp rest (put e o.dst v) (S++[z]) K
  |.wr=>∃v S',ZiX P o.op e S v S'∧keeps Kp S S'∧D6 P pf rf Kp lp wp rest (put e o.dst v) S' K
  |_=>BA P pf rf [⟨o.dst,o.op,none⟩] e S (fun e' S'=>keeps Kp S S'∧D6 P pf rf Kp lp wp rest e' S' K)
def BY(P:Program)(pf rf:List FuncId)(N0:Nat):CD→(AX→Af→Ae→Prop)→Af→Ae→Prop
 |.of c,Q,e,S=>AW P pf rf N0 c Q e S
 |.spec Kp lp wp l,Q,e,S=>D6 P pf rf Kp lp wp l e S (Q .norm)
 |.weak c,Q,e,S=>RF N0 e S (BY P pf rf N0 c Q)
 |.raw ops,Q,e,S=>DL P (Bp P pf rf) .any ops (Q .norm) ops.size (Array.replicate ops.size false) e S
 |.seq a b,Q,e,S=>BY P pf rf N0 a (CX Q (BY P pf rf N0 b Q)) e S
 |.cond c t f,Q,e,S=>match ev e c with
  |.bo b=>Dx b (BY P pf rf N0 t Q e S) (BY P pf rf N0 f Q e S)
  |_=>False
 |.block id b,Q,e,S=>BY P pf rf N0 b (ET id Q) e S
 |.loop b,Q,e,S=>HJ N0 (BY P pf rf N0 b) Q e S
def Ce(sp:List (Nat×(List Nat×List Nat×List Nat))):Code→Bool
 |.region id _ _=>(sp.lookup id).isSome
 |.seq a b=>Ce sp a||Ce sp b
 |.cond _ a b=>Ce sp a||Ce sp b
 |.block _ b=>Ce sp b
 |.loop b=>Ce sp b
 |_=>false
def P3(ord:List (Nat×List Nat))(id:Nat)(ops:Array Oper):List Nat:=match ord.lookup id with
 |none=>List.range ops.size
 |some l=>l
def Cf(sp:List (Nat×(List Nat×List Nat×List Nat)))(ord:List (Nat×List Nat))(c:Code):CD:=
 if !Ce sp c then .of (Ew ord c)else match c with
 |.region id ops d=>(match sp.lookup id with
  |some (Kp,lp,wp)=>if lp.head?==some 1000000&&d then .weak (.raw ops)else if lp.isEmpty&&wp.isEmpty then .weak (.of (Ew ord (.region id ops d)))else .weak (.spec Kp lp wp ((if d then(P3 ord id ops).filterMap (fun i=>ops[i]?)else ops.toList).map (DC ops)))
  |none=>.of .bad)
 |.seq a b=>.seq (Cf sp ord a) (Cf sp ord b)
 |.cond c a b=>.cond c (Cf sp ord a) (Cf sp ord b)
 |.block id b=>.block id (Cf sp ord b)
 |.loop b=>.loop (Cf sp ord b)
 |_=>.of .bad
def D2(P:Program)(pf rf:List FuncId)(N:Nat)(sp:List (Nat×(List Nat×List Nat×List Nat)))(ord:List (Nat×List Nat)):Code→Bool
 |.region id ops draw=>(match sp.lookup id with
  |some (_,lp,wp)=>if lp.head?==some 1000000&&draw then DF N ops else if lp.isEmpty&&wp.isEmpty then ER P pf rf N ord (.region id ops draw)else DF N ops&&(!draw||L0 lp wp (Bp P pf rf) ops (P3 ord id ops))
  |none=>ER P pf rf N ord (.region id ops draw))
 |.seq a b=>D2 P pf rf N sp ord a&&D2 P pf rf N sp ord b
 |.cond _ a b=>D2 P pf rf N sp ord a&&D2 P pf rf N sp ord b
 |.block _ b=>D2 P pf rf N sp ord b
 |.loop b=>D2 P pf rf N sp ord b
 |_=>true
section
variable {P:Program} {N N0:Nat} {w0:World} {g0:Gh} {pf rf:List FuncId} {sp:List (Nat×(List Nat×List Nat×List Nat))} {ord:List (Nat×List Nat)}
theorem Zf2{c:Code}(h:Ce sp c=false):Cf sp ord c=.of (Ew ord c):=by
 unfold Cf;rw[h];rfl
theorem Zf1{a b:Code}(h:Ce sp (.seq a b)=true):Cf sp ord (.seq a b)=.seq (Cf sp ord a) (Cf sp ord b):=by
 rw[Cf,h];rfl
theorem Zf4{x:Operand}{a b:Code}(h:Ce sp (.cond x a b)=true):Cf sp ord (.cond x a b)=.cond x (Cf sp ord a) (Cf sp ord b):=by
 rw[Cf,h];rfl
theorem Zf5{id:Nat}{b:Code}(h:Ce sp (.block id b)=true):Cf sp ord (.block id b)=.block id (Cf sp ord b):=by
 rw[Cf,h];rfl
theorem Zf3{b:Code}(h:Ce sp (.loop b)=true):Cf sp ord (.loop b)=.loop (Cf sp ord b):=by
 rw[Cf,h];rfl
theorem Zg7:∀{c:Code},Ce sp c=false→D2 P pf rf N sp ord c=true→ER P pf rf N ord c=true:=by
 intro c;induction c with
 |region id ops d=>
  intro h hk;simp only[Ce,Option.isSome_eq_false_iff,Option.isNone_iff_eq_none]at h;simpa only[D2,h] using hk
 |seq a b iha ihb=>
  intro h hk;simp only[Ce,Bool.or_eq_false_iff]at h;simp only[D2,ER,Bool.and_eq_true]at hk ⊢;exact⟨iha h.1 hk.1,ihb h.2 hk.2⟩
 |cond x a b iha ihb=>
  intro h hk;simp only[Ce,Bool.or_eq_false_iff]at h;simp only[D2,ER,Bool.and_eq_true]at hk ⊢;exact⟨iha h.1 hk.1,ihb h.2 hk.2⟩
 |block id b ih=>intro h hk;exact ih (by simpa only[Ce] using h) (by simpa only[D2] using hk)
 |loop b ih=>intro h hk;exact ih (by simpa only[Ce] using h) (by simpa only[D2] using hk)
 |_=>intro _ _;rfl
theorem Kz{ro:Option Nat}(hm:P.follows .mixedOrders=true)(hN0:g0.nid=N0){c:Code}{Q:AX→Af→Ae→Prop}{e:Af}{S:Ae}{a:Act}{w:World}(hns:Ce sp c=false)(hok:D2 P pf rf N sp ord c=true)(hc:A1 N w0 g0 e S a w)(h:BY P pf rf N0 (Cf sp ord c) Q e S):c.wpIn (wR ro) 0 P (Fs N w0 g0 Q) a w:=by
 rw[Zf2 hns]at h;exact Zi hm hN0 c Q e S a w (Zg7 hns hok) hc h
theorem Zgz{o:Oper}{t:TypeId}{x:Operand}{e:Af}{S:Ae}{v:AV}{Kp:List Nat}(ho:o.op=.load t x)(hv:EB (AQ P t) S (ev e x)=some v)(hp:I7 Kp o.op e=true):∃k∈Kp,∀S2:Ae,S2[k]? = S[k]? → AU P o e S2 v S2:=by
 rw[ho]at hp;unfold I7 at hp;simp only at hp
 split at hp
 ·rename_i k off hx
  refine⟨k,by simpa using hp,fun S2 h2=>Q1 ho ?_⟩
  rw[hx]at hv ⊢;unfold EB at hv ⊢;split at hv
  ·rename_i hz he
   cases he
   simp only[h2];exact hv
  ·rename_i he;cases he
  ·rename_i he;cases he
  ·cases hv
 ·rename_i u off hx
  obtain⟨k,hk⟩:∃k,k∈Kp:=by
   cases Kp with
   |nil=>cases hp
   |cons k _=>exact⟨k,by simp⟩
  refine⟨k,hk,fun S2 _=>Q1 ho ?_⟩
  rw[hx]at hv ⊢;cases hz:AQ P t with
  |none=>rw[hz]at hv;cases hv
  |some z=>rw[hz]at hv;exact hv
 ·cases hp
theorem GY{Kp lp wp:List Nat}{ops:Array Oper}{Q:Af→Ae→Prop}:∀(l:List Oper) (e:Af) (S:Ae),D6 P pf rf Kp lp wp (l.map (DC ops)) e S Q→CE P Kp lp wp (Bp P pf rf) ops Q l e S
 |[],e,S,h=>h
 | o ::rest,e,S,h=>by
  simp only[List.map_cons,D6]at h;obtain⟨hgd,h⟩:=h;have hg:Cc ops o e=some true:=by
   unfold DC at hgd;unfold Cc;cases hx:o.guard with
   |none=>rfl
   |some p=>obtain⟨j,want⟩:=p;rw[hx]at hgd;cases hgd
  have hop:(DC ops o).op=o.op:=rfl;have hds:(DC ops o).dst=o.dst:=rfl;rw[hop,hds]at h;unfold Kl at h;unfold CE;simp only[hg];unfold B7;have one:∀K:Af→Ae→Prop,BA P pf rf [⟨o.dst,o.op,none⟩] e S K→Bn P pf rf o.op e S (fun v S'=>K (put e o.dst v) S'):=fun K h=>by
   rw[BA]at h;obtain⟨b,hb,h⟩:=CS h;cases hb
   have h:=h.1 rfl;have e1:(fun v S'=>BA P pf rf [] (put e o.dst v) S' K)=fun v S'=>K (put e o.dst v) S':=by funext v S';rw[BA]
   rw[e1]at h;exact h
  cases hk:FW lp wp o.dst o.op with
  | rp=>
   rw[hk]at h;simp only at h ⊢
   have h:=one _ h;cases hl:o.op with
   |load t x=>
    rw[hl]at h;unfold Bn at h;simp only at h
    obtain⟨v,hv,h1,h2⟩:=CS h;rw[←hl]at h1;exact⟨v,S,⟨rfl,Zgz hl hv h1⟩,GY rest _ _ h2⟩
   |_=>
    exfalso;obtain⟨v,S',_,h2,_⟩:=MX h;unfold I7 at h2;rw[hl]at h2;cases h2
  | wr=>
   rw[hk]at h;simp only at h ⊢
   obtain⟨v,S',⟨h1,h2⟩,h3,h4⟩:=h;refine⟨v,S',⟨h1,h3,fun R=>?_⟩,GY rest _ _ h4⟩
   split at h2
   ·rename_i c ho
    split at h2
    ·rename_i f hf
     refine Mo (fa:=[]) (ca:=[]) ho hf rfl ?_
     simp only[List.nil_append,List.append_nil];exact(h2 R).weak
    ·exact h2.elim
   ·exact h2.elim
  | al =>
   rw[hk]at h;simp only at h ⊢
   cases hl:o.op with
   |alloc t=>
    rw[hl]at h;simp only at h
    rw[←hl]at h;have h:=one _ h;rw[hl]at h;unfold Bn at h;simp only at h
    obtain⟨z,hz,h1,h2⟩:=CS h;refine⟨_,_,⟨⟨_,rfl,fun S2 h3=>?_⟩,h1⟩,GY rest _ _ h2⟩
    rw[←h3];exact Xb hl hz
   | call c=>
    rw[hl]at h;simp only at h
    obtain⟨v,z,h1,h2,h3⟩:=h;unfold RI at h1;simp only at h1
    split at h1
    ·rename_i hb
     split at h1
     ·rename_i x y t u hargs hts
      have hc:c={ callee:=.builtin .append,args:=#[x,y],argTypes:=#[t,u] }:=by
       cases c with |mk ce ar at_=>
       simp only at hb hargs hts
       rw[hb];congr 1
       ·exact Array.ext' hargs
       ·exact Array.ext' hts
      refine⟨_,_,⟨⟨_,rfl,fun S2 h4=>ZgH (by rw[hl,hc]) ?_⟩,h2⟩,GY rest _ _ h3⟩
      unfold MN at h1 ⊢;rw[h4];exact h1
     ·cases h1
    ·cases h1
   |buildSlice t n parts=>
    rw[hl]at h;simp only at h
    obtain⟨v,z,h1,h2,h3⟩:=h;unfold RI at h1;simp only at h1
    refine⟨_,_,⟨⟨_,rfl,fun S2 h4=>ZgA hl ?_⟩,h2⟩,GY rest _ _ h3⟩
    unfold OT at h1 ⊢;rw[h4];exact h1
   | _=>
    exfalso;unfold FW at hk;rw[hl]at hk;split at hk
    ·split at hk
     ·cases hk
     ·split at hk<;>cases hk
    ·cases hk
  |ot=>
   rw[hk]at h;simp only at h ⊢
   have h:=one _ h;obtain⟨v,S',h1,h3,h4⟩:=MX h;exact⟨v,S',⟨h1,h3⟩,GY rest _ _ h4⟩
theorem O5{ro:Option Nat}{Kp lp wp:List Nat}{cls:Op→Cls}{ops:Array Oper}{Q:Af→Ae→Prop}{Q':Exit→Act→World→Prop}(hds:DF N ops=true)(hQ:∀e S a w,A1 N w0 g0 e S a w→Q e S→Q' .normal a w):
  ∀(l:List Oper),(∀o∈l,∃i:Nat,ops[i]? = some o) → ∀(e:Af) (S:Ae) (a:Act) (w:World),A1 N w0 g0 e S a w→CE P Kp lp wp cls ops Q l e S→wpListIn (wR ro) 0 P ops Q' l a w
 |[],_,e,S,a,w,hc,h=>hQ e S a w hc h
 | o::l,hl,e,S,a,w,hc,h=>by
  obtain⟨i,hi⟩:=hl o (by simp)
  have hd:=Ox hds hi;have her:∃g,DK w g e a:=by obtain⟨_,_,g,_,h4,_⟩:=hc;exact⟨g,h4⟩
  obtain⟨g,her⟩:=her;unfold CE at h;unfold wpListIn;split at h
  ·rename_i hw
   rw[Iw her hw];obtain⟨v,S',h1,h2⟩:=h;simp only[if_true];exact hc.does hd h1.does (fun a' w' hc'=>O5 hds hQ l (fun o ho=>hl o (by simp[ho])) _ _ a' w' hc' h2) ro
  ·rename_i hw
   rw[Iw her hw];simp only[Bool.false_eq_true,if_false];exact⟨fun _ _=>trivial,O5 hds hQ l (fun o ho=>hl o (by simp[ho])) _ _ _ w (hc.skip hd) h⟩
  ·exact h.elim
theorem ZiZ{ro:Option Nat}(hm:P.follows .mixedOrders=true)(hN0:g0.nid=N0):∀(c:Code) (Q:AX→Af→Ae→Prop) (e:Af) (S:Ae) (a:Act) (w:World),D2 P pf rf N sp ord c=true→A1 N w0 g0 e S a w→BY P pf rf N0 (Cf sp ord c) Q e S→c.wpIn (wR ro) 0 P (Fs N w0 g0 Q) a w:=by
 intro c;induction c with
 | region id ops draw=>
  intro Q e S a w hok hc h;cases hns:Ce sp (.region id ops draw)with
  |false=>exact Kz hm hN0 hns hok hc h
  | true=>
   simp only[Ce]at hns;obtain⟨⟨Kp,lp,wp⟩,hs⟩:=Option.isSome_iff_exists.1 hns;have hQ:∀e S a w,A1 N w0 g0 e S a w→Q .norm e S→Fs N w0 g0 Q .normal a w:=fun e S a w hc hq=>⟨e,S,hc,hq⟩
   simp only[D2,hs]at hok;simp only[Cf,Ce,hs,Option.isSome_some,Bool.not_true,Bool.false_eq_true,if_false]at h;by_cases hraw:(lp.head?==some 1000000&&draw)=true
   ·rw[if_pos hraw]at h hok
    simp only[BY]at h;obtain⟨e1,S1,hwk,h⟩:=h;have hd:draw=true:=(Bool.and_eq_true_iff.1 hraw).2;subst hd;exact wpIn_region_any hm (HM ro (cls:=Bp P pf rf) hok hQ _ _ e1 S1 a _ ((hwk N w0 g0 a w hN0 hc).draw _) h)
   rw[if_neg hraw]at h hok;by_cases hem:(lp.isEmpty&&wp.isEmpty)=true
   ·rw[if_pos hem]at h hok
    simp only[BY]at h;obtain⟨e1,S1,hwk,h⟩:=h;exact Zi hm hN0 _ Q e1 S1 a w hok (hwk N w0 g0 a w hN0 hc) h
   ·rw[if_neg hem]at h hok
    simp only[BY]at h;obtain⟨e1,S1,hwk,h⟩:=h;have hc1:=hwk N w0 g0 a w hN0 hc;simp only[Bool.and_eq_true]at hok;cases draw with
    |true=>
     simp only[if_true,Bool.not_true,Bool.false_or]at h hok;exact PM hm hok.2 hok.1 hQ hc1 (GY _ e1 S1 h)
    |false=>
     simp only[Bool.false_eq_true,if_false]at h;refine wpIn_region_list (O5 (cls:=Bp P pf rf) hok.1 hQ ops.toList (fun o ho=>?_) e1 S1 a w hc1 (GY _ e1 S1 h))
     obtain⟨i,hi⟩:=List.mem_iff_getElem?.1 ho;exact⟨i,by simpa using hi⟩
 | seq x y ihx ihy=>
  intro Q e S a w hok hc h;cases hns:Ce sp (.seq x y)with
  |false=>exact Kz hm hN0 hns hok hc h
  |true=>
   rw[Zf1 hns]at h;simp only[D2,Bool.and_eq_true]at hok;simp only[BY]at h;refine wpIn_seq (Go.wpIn_mono (ihx _ e S a w hok.1 hc h) ?_)
   intro ex a' w' hq;cases ex with
   |normal=>obtain⟨e',S',hc',h'⟩:=hq;exact ihy Q e' S' a' w' hok.2 hc' h'
   |exit id=>exact hq
   |ret=>exact hq
   |_=>exact hq.elim
 | cond c x y ihx ihy=>
  intro Q e S a w hok hc h;cases hns:Ce sp (.cond c x y)with
  |false=>exact Kz hm hN0 hns hok hc h
  | true=>
   rw[Zf4 hns]at h;simp only[D2,Bool.and_eq_true]at hok;simp only[BY]at h;split at h
   ·rename_i b hb
    have hcb:a.eval c=.bool b:=by
     obtain⟨_,_,g,_,h4,_⟩:=hc;have :=Kr h4 c;rw[hb]at this;cases hv:a.eval c<;>rw[hv]at this<;>cases this
     rfl
    refine wpIn_cond_split hcb (fun ht=>ihx Q e S a w hok.1 hc (h.1 ht)) (fun hf=>ihy Q e S a w hok.2 hc (h.2 hf))
   ·exact h.elim
 | block id c ih=>
  intro Q e S a w hok hc h;cases hns:Ce sp (.block id c)with
  |false=>exact Kz hm hN0 hns hok hc h
  | true=>
   rw[Zf5 hns]at h;simp only[BY]at h;refine wpIn_block (Go.wpIn_mono (ih _ e S a w hok hc h) ?_)
   intro ex a' w' hq;cases ex with
   |normal=>exact hq
   |exit i=>
    obtain⟨e',S',hc',h'⟩:=hq;simp only[ET]at h';simp only[Exit.inBlock];by_cases hi:i=id
    ·rw[if_pos hi]at h' ⊢;exact⟨e',S',hc',h'⟩
    ·rw[if_neg hi]at h' ⊢;exact⟨e',S',hc',h'⟩
   |ret=>exact hq
   |_=>exact hq.elim
 | loop c ih=>
  intro Q e S a w hok hc h;cases hns:Ce sp (.loop c)with
  |false=>exact Kz hm hN0 hns hok hc h
  | true=>
   rw[Zf3 hns]at h;simp only[BY]at h;obtain⟨I,⟨n,e',S',hwk,hI⟩,hround⟩:=h;refine KO (fun n a w=>∃e S,A1 N w0 g0 e S a w∧I n e S) n ⟨e',S',hwk N w0 g0 a w hN0 hc,hI⟩ ?_
   rintro n a w ⟨e,S,hc,hI⟩
   refine Go.wpIn_mono (ih _ e S a w hok hc (hround n e S hI)) ?_
   intro ex a' w' hq;cases ex with
   |normal=>
    obtain⟨e1,S1,hc1,n',e2,S2,hlt,hwk',hI'⟩:=hq;exact⟨n',hlt,e2,S2,hwk' N w0 g0 a' w' hN0 hc1,hI'⟩
   |exit i=>exact hq
   |ret=>exact hq
   |_=>exact hq.elim
 |_=>
  intro Q e S a w hok hc h;exact Kz hm hN0 rfl hok hc h
end
section
variable {P:Program}
theorem AC.enter4{f:FuncId}{fn:Func}{c:Code}{args:List AV}{S S':Ae}{v:AV}(pf rf:List FuncId)(sp:List (Nat×(List Nat×List Nat×List Nat)))(ord:List (Nat×List Nat))(hf:P.funcs[f]? = some fn)(hb:fn.body=some c)(hname:fn.name ≠ "runtime.NumGoroutine")(hm:P.follows .mixedOrders=true)
  (hn:args.length≤fn.ntmps)(hok:D2 P pf rf fn.ntmps sp ord c=true)(h:BY P pf rf S.length (Cf sp ord c) (Dr P fn.results.toList S.length v S') (Fi args) S):AC P f args S v S':=by
 exact AC.of_wp hf hb hname hn fun w g a hg hc=>ZiZ hm hg c _ (Fi args) S a w hok hc h
end
section
variable (P:Program) (pf rf:List FuncId) (N0:Nat) (Q:AX→Af→Ae→Prop) (e:Af) (S:Ae) (K:Af→Ae→Prop)
theorem Zb(c:CC):BY P pf rf N0 (.of c) Q e S=AW P pf rf N0 c Q e S:=rfl
theorem Za(a b:CD):BY P pf rf N0 (.seq a b) Q e S=BY P pf rf N0 a (CX Q (BY P pf rf N0 b Q)) e S:=rfl
theorem Y8(c:CD):BY P pf rf N0 (.weak c) Q e S=RF N0 e S (BY P pf rf N0 c Q):=rfl
theorem Y9(Kp lp wp:List Nat)(l:List AO):BY P pf rf N0 (.spec Kp lp wp l) Q e S=D6 P pf rf Kp lp wp l e S (Q .norm):=rfl
def RL(c:CD):Prop:=BY P pf rf N0 c Q e S
theorem Zd(c:Operand)(t f:CD):BY P pf rf N0 (.cond c t f) Q e S=Mr (ev e c) (RL P pf rf N0 Q e S t) (RL P pf rf N0 Q e S f):=rfl
theorem Y7(c:CD):RL P pf rf N0 Q e S c=BY P pf rf N0 c Q e S:=rfl
theorem Ze(id:Nat)(b:CD):BY P pf rf N0 (.block id b) Q e S=BY P pf rf N0 b (ET id Q) e S:=rfl
theorem Zc(b:CD):BY P pf rf N0 (.loop b) Q e S=HJ N0 (BY P pf rf N0 b) Q e S:=rfl
theorem Zs(Kp lp wp:List Nat):D6 P pf rf Kp lp wp [] e S K=K e S:=rfl
end
def Pv(P:Program)(pf rf:List FuncId)(K:Af→Ae→Prop)(Kp lp wp:List Nat)(op:Op)(rest:List AO)(e:Af)(e':Af)(S':Ae):Prop:=I7 Kp op e=true∧D6 P pf rf Kp lp wp rest e' S' K
def Pw(P:Program)(pf rf:List FuncId)(K:Af→Ae→Prop)(Kp lp wp:List Nat)(rest:List AO)(S:Ae)(e':Af)(S':Ae):Prop:=keeps Kp S S'∧D6 P pf rf Kp lp wp rest e' S' K
section
variable {P:Program} {pf rf:List FuncId} {e e':Af} {S S':Ae} {K:Af→Ae→Prop} {Kp lp wp:List Nat} {rest:List AO}
theorem B6{d:Option Nat}{op:Op}(h:BA P pf rf [⟨d,op,none⟩] e S (Pv P pf rf K Kp lp wp op rest e))(hk:Kl lp wp d op=.rp:=by rfl):D6 P pf rf Kp lp wp (⟨d,op,none⟩::rest) e S K:=by
 refine⟨rfl,?_⟩
 show match Kl lp wp d op with
  |.rp=>_
  |.ap=>_
  |.wr=>_
  |_=>_
 rw[hk];exact h
theorem a4{d:Option Nat}{op:Op}(h:BA P pf rf [⟨d,op,none⟩] e S (Pw P pf rf K Kp lp wp rest S))(hk:Kl lp wp d op=.ot:=by rfl):D6 P pf rf Kp lp wp (⟨d,op,none⟩::rest) e S K:=by
 refine⟨rfl,?_⟩
 show match Kl lp wp d op with
  |.rp=>_
  |.ap=>_
  |.wr=>_
  |_=>_
 rw[hk];exact h
theorem k4(h:D6 P pf rf Kp lp wp rest e' S' K)(hk:keeps Kp S S':=by(intro k hk;simp only[List.mem_cons,List.not_mem_nil,or_false]at hk;first|(subst hk;rfl)|(rcases hk with rfl|rfl<;>rfl)|(rcases hk with rfl|rfl|rfl<;>rfl))):Pw P pf rf K Kp lp wp rest S e' S':=⟨hk,h⟩
theorem Fc{op:Op}(h:D6 P pf rf Kp lp wp rest e' S' K)(hk:I7 Kp op e=true:=by rfl):Pv P pf rf K Kp lp wp op rest e e' S':=⟨hk,h⟩
end
set_option maxRecDepth 100000
theorem run4{A B:Prop}(h:B)(e:A=B:=by
  conv=>
   lhs
   (try simp only[OV,OW,OX,Y7,Gm,GL])
   (try simp -implicitDefEqProofs (maxSteps:=4000000) (disch:=(first|omega|(simp only[List.length_append,List.length_cons,List.length_map,List.length_nil,List.length_take,List.length_drop];omega))) only[↓Zb,↓Za,↓Y9,↓Y8,↓Zd,↓Ze,↓Zc,↓Zs,↓MY,MZ,De,↓reduceIte,Nat.reduceEqDiff,Nat.reduceAdd,Nat.reduceLT,Nat.reduceLeDiff,Nat.reduceMul,Nat.reduceSub,Int.reduceToNat,Int.reduceAdd,Int.reduceSub,Int.reduceMul,Int.reduceNeg,Int.reduceLE,Int.reduceLT,Int.reduceEq,Int.reduceBEq,Int.reduceBNe,Nat.reduceBEq,Nat.reduceBNe,EC,FK,GV,IC,JF,JB,Ix,HH,ID,IJ,IK,IH,II,Gz,EB,Iy,JD,JE,IG,IF,GU,Gy,Cj,Fb,Gl,Je,JC,IB,IE,JG,GA,Ft,IA,CB,Ia,apart,FJ,FH,FI,GC,HK,F9,AV.wk,AV.wk2,AV.wk1,AV.cells,AV.solid,AV.ro,AV.ro1,←List.map_take,←List.map_drop,reduceCtorEq,Option.isNone_some,Option.isSome_none,Lo,Ln,Ld,KZ,KX,KW,KV,KU,KS,KR,Lm,Ll,Lk,Lj,Li,Lh,Lg,Lf,Lc,Lb,La,K9,K8,K7,K6,K3,KY])
   (try simp only[Gm,GL])):A:=e▸h
theorem runf4{F A B:Prop}(f:F)(h:B)(e:F→A=B:=by
  intro f;conv=>
   lhs
   (try simp only[OV,OW,OX,Y7,Gm,GL])
   (try simp -implicitDefEqProofs (maxSteps:=4000000) (disch:=(first|omega|(simp only[List.length_append,List.length_cons,List.length_map,List.length_nil,List.length_take,List.length_drop];omega))) only[↓Zb,↓Za,↓Y9,↓Y8,↓Zd,↓Ze,↓Zc,↓Zs,↓MY,MZ,De,↓reduceIte,Nat.reduceEqDiff,Nat.reduceAdd,Nat.reduceLT,Nat.reduceLeDiff,Nat.reduceMul,Nat.reduceSub,Int.reduceToNat,Int.reduceAdd,Int.reduceSub,Int.reduceMul,Int.reduceNeg,Int.reduceLE,Int.reduceLT,Int.reduceEq,Int.reduceBEq,Int.reduceBNe,Nat.reduceBEq,Nat.reduceBNe,EC,FK,GV,IC,JF,JB,Ix,HH,ID,IJ,IK,IH,II,Gz,EB,Iy,JD,JE,IG,IF,GU,Gy,Cj,Fb,Gl,Je,JC,IB,IE,JG,GA,Ft,IA,CB,Ia,apart,FJ,FH,FI,GC,HK,F9,AV.wk,AV.wk2,AV.wk1,AV.cells,AV.solid,AV.ro,AV.ro1,←List.map_take,←List.map_drop,reduceCtorEq,Option.isNone_some,Option.isSome_none,Lo,Ln,Ld,KZ,KX,KW,KV,KU,KS,KR,Lm,Ll,Lk,Lj,Li,Lh,Lg,Lf,Lc,Lb,La,K9,K8,K7,K6,K3,KY,f])
   (try simp only[Gm,GL])):A:=e f▸h
end Pe
namespace Pe
open Go Go.RowKit
variable [Tab]
theorem WF.still{w:World}{g:Gh}{S:Ae}(h:WF w g S){l n:Nat}{o:SObj}{arr:Array Value}{T:TypeId}{fr:Nat×Nat}(hS:S[l]? = some o)(hown:g.own l (g.pl l))(hG:g.G (g.pl l)=0)(hh:w.heap[g.pl l]? = some (.cells arr T fr)):
  WF w { g with G:=fun x=>if x=g.pl l then n else g.G x } (S.set l .dead)∧Evo w g w { g with G:=fun x=>if x=g.pl l then n else g.G x }:=by
 have hlS:=(List.getElem?_eq_some_iff.1 hS).1
 have hln:l<g.nid:=by rw[h.nid];exact hlS
 let g':Gh:={ g with G:=fun x=>if x=g.pl l then n else g.G x }
 have hne:∀b,0<g.G b→b≠g.pl l:=fun b h e=>by rw[e,hG]at h;exact absurd h (Nat.lt_irrefl 0)
 have hle:Le w g w g':=⟨fun _ _ _ _ h=>h,fun b o v hb _=>by
  show o<(if b=g.pl l then n else g.G b)
  rw[if_neg (hne b (by omega))];exact hb,Nat.le_refl _,fun _ _=>⟨rfl,.inl ⟨rfl,rfl,rfl⟩⟩,fun b me c hg hm=>⟨by
  show 0<(if b=g.pl l then n else g.G b)
  rw[if_neg (hne b hg)];exact hg,hm⟩⟩
 refine⟨⟨by rw[List.length_set];exact h.nid,fun k o hk=>?_,h.disj,h.lt,h.tab.le hle⟩,⟨hle,rfl,rfl,rfl,Nat.le_refl _,fun _ _ _=>rfl,fun _ _ hk hb _=>⟨hk,hb⟩,fun b _ hno=>if_neg (fun e=>hno l hln (by rw[e];exact hown))⟩⟩
 by_cases hkl:k=l
 ·subst hkl;rw[List.getElem?_set_self hlS]at hk;cases hk;trivial
 ·rw[List.getElem?_set_ne (Ne.symm hkl)]at hk
  have hkn:k<g.nid:=by rw[h.nid];exact(List.getElem?_eq_some_iff.1 hk).1
  refine(h.obj k o hk).keep hle rfl rfl rfl rfl rfl (fun b hb'=>?_) (fun _ _=>rfl)
  exact if_neg (fun e=>hkl (h.disj k l b hkn hln hb' (by rw[e];exact hown)))
theorem WF.kill{w:World}{g:Gh}{S:Ae}(h:WF w g S)(l:Nat):WF w g (S.set l .dead):=by
 refine⟨by rw[List.length_set];exact h.nid,fun k o hk=>?_,h.disj,h.lt,h.tab⟩
 by_cases hkl:k=l
 ·subst hkl
  by_cases hlt:k<S.length
  ·rw[List.getElem?_set_self hlt]at hk;cases hk;trivial
  ·rw[List.getElem?_eq_none (by simp;omega)]at hk;cases hk
 ·rw[List.getElem?_set_ne (Ne.symm hkl)]at hk
  exact h.obj k o hk
theorem Zbn{w:World}{g g':Gh}{es:List AV}{arr:Array Value}{sz b c:Nat}{T:TypeId}{fr:Nat×Nat}(hle:Le w g w g')(hsz:∀x∈es,x.cells.length=sz)(hh:w.heap[b]? = some (.cells arr T fr))(hG:es.length*sz≤g'.G b)
  (hc:es.length≤c)(hm:c≤maxLen)(hok:(Ak es).all (AV.o1 0)=true)(h1:∀(j:Nat) v,arr[j]? = some v→j<(Ak es).length→v.oneCell'=true)(hr:∀(j:Nat) u v,(Ak es)[j]? = some u→arr[j]? = some v→Rel w g u v)(hl:(Ak es).length≤arr.size):
  Rel w g' (.sl .ro es) (.slice (some ⟨b,0,none⟩) es.length c):=by
 have hfl:=FZ hsz;have hren:RenOk w g w g'.noid id 0:=⟨hle.noid,fun l hl=>absurd hl (Nat.not_lt_zero _)⟩
 refine .sl _ .ro es _ c sz (fun j=>arr.getD j undef) hc hm hsz (fun _=>⟨b,0,rfl,fun j hj=>⟨by omega,?_⟩⟩) (fun j hj=>?_) (fun j u hu=>?_) trivial
 ·rw[Nat.zero_add,cell_of_row w b j arr T fr hh]
  have:j<arr.size:=by omega
  simp[Array.getD,this]
 ·have:j<arr.size:=by omega
  refine h1 j _ ?_ hj
  simp[Array.getD,this]
 ·have hj:=(List.getElem?_eq_some_iff.1 hu).1
  have hj':j<arr.size:=by omega
  have hv:arr[j]? = some (arr.getD j undef):=by simp[Array.getD,hj']
  have hk:=List.all_eq_true.1 hok u (List.mem_of_getElem? hu);have :=(hr j u _ hu hv).r1 hren hk;rwa[Dm hk (fun i hi=>absurd hi (Nat.not_lt_zero _))]at this
theorem WF.frz{w:World}{g:Gh}{S:Ae}(h:WF w g S){l:Nat}{es:List AV}{e:TypeId}{sz:Nat}(hS:S[l]? = some (.row (Ak es) e sz))(hsz:∀x∈es,x.cells.length=sz)(hok:(Ak es).all (AV.o1 0)=true):
  ∃g',WF w g' (S.set l .dead)∧Evo w g w g' ∧ ∀cv,Rel w g (.wr l es.length none) cv→Rel w g' (.sl .ro es) cv:=by
 obtain⟨hb,⟨hsz0,hwm⟩,hrow⟩:=h.obj l _ hS;have hfl:=FZ hsz;have hn:es.length=g.wm l:=Nat.eq_of_mul_eq_mul_right hsz0 (by omega)
 rcases Nat.eq_zero_or_pos es.length with h0|h0
 ·have:es=[]:=List.eq_nil_of_length_eq_zero h0
  subst this;refine⟨g,h.kill l,Evo.refl w g,fun cv hr=>?_⟩
  cases hr with
  |wr _ _ _ c A hl hb hwn hc hcm h0 hA=>exact .sl _ .ro [] A c sz (fun _=>undef) hc hcm (by simp) (fun h=>absurd h (Nat.lt_irrefl 0)) (by simp[Ak]) (by simp[Ak]) trivial
 ·rcases hrow with⟨_,hrow⟩|⟨hown,hG,arr,fr,hh,hfr,hcap,hcl,h9,h10⟩
  ·rw[hrow]at hfl
   have :=Nat.mul_pos h0 hsz0;simp at hfl;omega
  ·obtain⟨q1,q2⟩:=h.still (n:=es.length*sz) hS hown hG hh
   refine⟨_,q1,q2,fun cv hr=>?_⟩
   cases hr with
   | wr _ _ _ c A hl hb hwn hc hcm h0' hA=>
    obtain⟨rfl,hA⟩:c=g.cap l∧(0<c→A=some ⟨g.pl l,0,none⟩):=by
     rcases hA with hA|hA
     ·omega
     ·exact hA
    rw[hA (by omega)]
    exact Zbn q2.toLe hsz hh (by simp) hc hcm hok h9 h10 hcl
theorem Ao.frz(N0:Nat){e:Af}{S:Ae}(d l n:Nat){cs es:List AV}{ty:TypeId}{sz:Nat}(hd:e d=.wr l n none)(hS:S[l]? = some (.row cs ty sz))(hcs:cs=Ak es)(hn:n=es.length)(hsz:AK sz es=true)(hok:cs.all (AV.o1 0)=true):Ao N0 e S (Bv e d (.sl .ro es)) (S.set l .dead):=by
 rintro N w0 g0 a w hN ⟨h1,h2,g,h3,h4,h5⟩
 subst hcs hn;obtain⟨g',q1,q2,q3⟩:=h3.frz hS (EV hsz) hok;refine⟨h1,h2,g',q1,fun t=>?_,h5.trans q2⟩
 by_cases htd:t=d
 ·subst htd
  rw[JU];have ht:=h4 t;rw[hd]at ht;exact q3 _ ht
 ·rw[HS _ htd]
  exact(h4 t).le q2.toLe
theorem On(v:AV)(l:List AV):Ak (v::l)=v.cells++Ak l:=rfl
theorem Om{α:Type}(f:α→AV)(h:∀a,(f a).cells.all (AV.o1 0)=true):∀l:List α,(Ak (l.map f)).all (AV.o1 0)=true
 |[]=>rfl
 |a::l=>by
  rw[List.map_cons,On,List.all_append,h a,Om f h l];rfl
theorem QK{α:Type}(f:α→AV)(n:Nat)(h:∀a,(f a).cells.length=n):∀l:List α,(Ak (l.map f)).length=l.length*n
 |[]=>by simp[Ak]
 |a::l=>by rw[List.map_cons,On,List.length_append,h a,QK f n h l,List.length_cons,Nat.add_mul];omega
theorem YS{α:Type}(f:α→AV)(n:Nat)(h:∀a,(f a).cells.length=n)(x:α):∀(l:List α) (j:Nat),j<l.length→Bf (Ak (l.map f)) (j*n) (f x).cells=Ak ((l.set j x).map f)
 |[],j,hj=>absurd hj (Nat.not_lt_zero _)
 |a::l,0,_=>by
  have h1:=h a;have h2:=h x;simp only[List.map_cons,List.set_cons_zero,On,Nat.zero_mul,Bf,List.take_zero,List.nil_append,Nat.zero_add,h2];rw[List.drop_append_of_le_length (by omega),List.drop_of_length_le (by omega),List.nil_append]
 |a::l,j+1,hj=>by
  have h1:=h a;have h2:=h x;have ih:=YS f n h x l j (by simpa using hj)
  simp only[Bf]at ih;simp only[List.map_cons,List.set_cons_succ,On,Bf,Nat.add_mul,Nat.one_mul];rw[←ih,List.take_append,h1,List.take_of_length_le (by omega),List.drop_append,h1,List.drop_of_length_le (by omega)]
  simp only[List.nil_append,List.append_assoc];congr 3
  ·congr 1;omega
  ·congr 1;omega
end Pe
end
section
namespace Pe
open Go Go.RowKit Go.MapKept
set_option maxRecDepth 100000
set_option maxHeartbeats 4000000
abbrev B8(s:List UInt8):Value:=.string ⟨s.toArray⟩
def FE(p:List UInt8×Nat):MapEntry:=⟨B8 p.1,.bool true,p.2⟩
def MQ(l:List (List UInt8))(me:Array MapEntry)(clock:Nat):Prop:=
 ∃ps:List (List UInt8×Nat),ps.map (·.1)=l∧me=(ps.map FE).toArray∧(ps.map (·.2)).Nodup∧(∀p∈ps,p.2<clock)∧l.Nodup
def XS(l:List (List UInt8)):World→Nat→(Nat→Prop)→Prop:=fun w b _=>∃me clock,w.heap[b]? = some (.map me clock)∧MQ l me clock
def Ej(l:List (List UInt8))(s:List UInt8):List (List UInt8):=if s∈l then l else l++[s]
def DZ(l:List (List UInt8))(s:List UInt8):List (List UInt8):=l.filter fun y=>!(s==y)
theorem SQ{w:World}{g:Gh}{s:List UInt8}{v:Value}(h:Rel w g (.st s) v):v=B8 s:=by
 cases h
 rfl
theorem ZbM(a b:List UInt8):Instr.sameNow .string (B8 a) (B8 b)=some (a==b):=by
 simp only[Instr.sameNow,Option.some.injEq];rw[Bool.eq_iff_iff];constructor
 ·intro h
  have:(⟨a.toArray⟩:ByteArray)=⟨b.toArray⟩:=by simpa[bytes_beq] using h
  have:a.toArray=b.toArray:=congrArg ByteArray.data this
  have:a=b:=by simpa using this
  simpa using this
 ·intro h
  have:a=b:=by simpa using h
  subst this;simp[bytes_beq]
theorem QO(s:List UInt8):∀(ps:List (List UInt8×Nat)) (i:Nat),Instr.findNow .string (B8 s) (ps.map FE) i=some ((ps.findIdx? fun p=>s==p.1).map fun j=>(i+j,.bool true))
 |[],_=>rfl
 | p::ps,i=>by
  rw[List.map_cons,List.findIdx?_cons]
  unfold Instr.findNow;rw[show(FE p).key=B8 p.1 from rfl,ZbM]
  cases h:(s==p.1)with
  |true=>simp[FE]
  |false=>
   simp only[Bool.false_eq_true,if_false];rw[QO s ps (i+1),Option.map_map];congr 2
   funext j
   simp only[Function.comp];rw[show i+1+j=i+(j+1) by omega]
theorem Vq{s:List UInt8}{ps:List (List UInt8×Nat)}(h:(ps.findIdx? fun p=>s==p.1)=none):s∉ps.map (·.1):=by
 rw[List.findIdx?_eq_none_iff]at h
 intro hm;obtain⟨p,hp,rfl⟩:=List.mem_map.1 hm;have :=h p hp;simp at this
theorem Vp{s:List UInt8}{ps:List (List UInt8×Nat)}{j:Nat}(h:(ps.findIdx? fun p=>s==p.1)=some j):∃hj:j<ps.length,ps[j].1=s:=by
 rw[List.findIdx?_eq_some_iff_getElem]at h
 obtain⟨hj,h1,_⟩:=h;exact⟨hj,(by simpa using h1:s=ps[j].1).symm⟩
theorem ZeL{l:List (List UInt8)}{me:Array MapEntry}{clock:Nat}{s:List UInt8}(h:MQ l me clock)(hs:s∉l):MQ (Ej l s) (me.push ⟨B8 s,.bool true,clock⟩) (clock+1):=by
 obtain⟨ps,h1,h2,h3,h4,h5⟩:=h;refine⟨ps++[(s,clock)],?_,?_,?_,fun p hp=>?_,?_⟩
 ·unfold Ej
  rw[if_neg hs,List.map_append,h1];rfl
 ·rw[h2,List.map_append]
  simp[FE]
 ·rw[List.map_append,List.nodup_append]
  refine⟨h3,by simp,fun a ha b hb hab=>?_⟩
  obtain⟨p,hp,rfl⟩:=List.mem_map.1 ha;simp at hb
  have :=h4 p hp;omega
 ·rcases List.mem_append.1 hp with hp|hp
  ·exact Nat.lt_succ_of_lt (h4 p hp)
  ·rw[List.mem_singleton.1 hp]
   exact Nat.lt_succ_self _
 ·unfold Ej
  rw[if_neg hs,List.nodup_append];exact⟨h5,by simp,fun a ha b hb hab=>by simp at hb;subst hb;subst hab;exact hs ha⟩
theorem QT{α β:Type}(f:α→β)(l:List α)(j:Nat):(l.map f).eraseIdx j=(l.eraseIdx j).map f:=by
 rw[List.eraseIdx_eq_take_drop_succ,List.eraseIdx_eq_take_drop_succ,List.map_append,List.map_take,List.map_drop]
theorem ZeN{l:List (List UInt8)}{clock:Nat}{s:List UInt8}{ps:List (List UInt8×Nat)}{j:Nat}(h1:ps.map (·.1)=l)(h3:(ps.map (·.2)).Nodup)(h4:∀p∈ps,p.2<clock)(h5:l.Nodup)(hj:j<ps.length)(hs:ps[j].1=s):MQ (DZ l s) ((ps.map FE).toArray.eraseIdxIfInBounds j) clock:=by
 refine⟨ps.eraseIdx j,?_,?_,?_,fun p hp=>h4 p (List.mem_of_mem_eraseIdx hp),h5.sublist List.filter_sublist⟩
 ·rw[←QT,h1]
  unfold DZ;have hg:l[j]? = some s:=by rw[←h1,List.getElem?_map,List.getElem?_eq_getElem hj,Option.map_some,hs]
  have hlj:j<l.length:=(List.getElem?_eq_some_iff.1 hg).1
  have hgj:l[j]=s:=(List.getElem?_eq_some_iff.1 hg).2
  rw[List.eraseIdx_eq_take_drop_succ];have hsp:l=l.take j++s::l.drop (j+1):=by
   rw[←hgj,←List.drop_eq_getElem_cons hlj,List.take_append_drop]
  have hnd:=h5;rw[hsp,List.nodup_append]at hnd;have hn2:=(List.nodup_cons.1 hnd.2.1).1;conv=>rhs;rw[hsp]
  rw[List.filter_append,List.filter_cons];rw[if_neg (by simp)]
  rw[List.filter_eq_self.2,List.filter_eq_self.2]
  ·intro y hy
   have:s≠y:=fun e=>hn2 (e▸hy)
   simpa using this
  ·intro y hy
   have:s≠y:=fun e=>hnd.2.2 y hy s (by simp) e.symm
   simpa using this
 ·unfold Array.eraseIdxIfInBounds
  rw[dif_pos (by simpa using hj)]
  apply Array.ext'
  rw[←QT];simp
 ·rw[←QT]
  exact h3.sublist (List.eraseIdx_sublist _ _)
theorem ZeM{ps:List (List UInt8×Nat)}{j:Nat}{s:List UInt8}(hj:j<ps.length)(hs:ps[j].1=s):((ps.map FE).toArray.modify j fun e=>{ e with key:=B8 s,val:=.bool true })=(ps.map FE).toArray:=by
 apply Array.ext_getElem?
 intro i;rw[Array.getElem?_modify]
 split
 ·rename_i h
  subst h;simp only[List.getElem?_toArray,List.getElem?_map,List.getElem?_eq_getElem hj,Option.map_some]
  rw[←hs];rfl
 ·rfl
theorem ZbW{P:Program}(s:List UInt8)(w:World):(Instr.keyThatStays (B8 s) (B8 s)).run P w=.ok (B8 s) w:=by
 exact Go.MapKept.run_keyThatStays (P:=P) (w:=w) (d:=.string) (k:=B8 s) trivial
section
variable [Tab] {P:Program} {o:Oper} {e:Af} {S:Ae} {t kt et:TypeId} {x k v:Operand} {l:Nat} {s:List UInt8} {L:List (List UInt8)}
theorem Zgr(ho:o.op=.mapUpdate t x k v∨o.op=.insert t x k v)(hmt:P.underlying t=some (.map kt et))(hkd:P.underlying kt=some .string)(hx:ev e x=.mp l)(hk:ev e k=.st s)(hv:ev e v=.bo true)(hS:S[l]? = some (.ext (XS L))):
  AU P o e S .junk (S.set l (.ext (XS (Ej L s)))):=
 Oy fun ρ w g hw hr=>by
  have hmem:x∈o.op.operands.toList∧k∈o.op.operands.toList∧v∈o.op.operands.toList:=by rcases ho with ho|ho<;>rw[ho]<;>simp[Op.operands]
  have hrx:=hr x hmem.1;have hrk:=hr k hmem.2.1;have hrv:=hr v hmem.2.2;rw[hx]at hrx;rw[hk]at hrk;rw[hv]at hrv;have hkc:=SQ hrk;have hvc:ρ v=.bool true:=by
   generalize ρ v=cv at hrv;cases hrv
   rfl
  suffices H:∃w' g',(Instr.mapUpdate t (ρ x) (ρ k) (ρ v)).run P w=.ok () w'∧WF w' g' (S.set l (.ext (XS (Ej L s))))∧Evo w g w' g' by
   obtain⟨w',g',h1,h2,h3⟩:=H;refine⟨w',g',?_,h2,h3⟩
   unfold execOp;rcases ho with ho|ho<;>simp only[ho,Sem.run_bind,h1,Result.andThen_ok,Sem.run_pure]<;>rfl
  rw[hkc,hvc];generalize ρ x=cx at hrx;cases hrx with
  | mp _ _ hl hb=>
   obtain⟨hbf,hown,hG,hX⟩:=hw.obj l _ hS;obtain⟨me,clock,hheap,hset⟩:=hX w (fun _ _=>rfl)
   have hplt:g.pl l<w.heap.size:=(Array.getElem?_eq_some_iff.1 hheap).1
   have hlS:=(List.getElem?_eq_some_iff.1 hS).1
   have hck:(Instr.checkKey false 10000 kt (B8 s)).run P w=.ok () w:=run_checkKey (P:=P) (w:=w) hkd (show IsKey .string (B8 s)from trivial) false 9999
   obtain⟨ps,h1,h2,h3,h4,h5⟩:=id hset;have hf:=QO s ps 0;have hml:me.toList=ps.map FE:=by rw[h2]
   cases hj:ps.findIdx? (fun p=>s==p.1)with
   | none=>
    rw[hj]at hf;have hfk:(Instr.findKey kt (B8 s) me.toList).run P w=.ok none w:=run_findKey (P:=P) (w:=w) hkd (by rw[hml];exact hf)
    have hnot:s∉L:=by rw[←h1];exact Vq hj
    obtain⟨q1,q2⟩:=hw.put (o:=.ext (XS (Ej L s))) (ob:=.map (me.push ⟨B8 s,.bool true,clock⟩) (clock+1)) hlS hown (hG _ hown) ⟨hbf,hown,hG,fun w' hw'=>⟨_,_,by
     rw[hw' _ hown];simp only[Array.getElem?_setIfInBounds,if_true,hplt],ZeL hset hnot⟩⟩
    refine⟨_,g,?_,q1,q2⟩
    simp only[Instr.mapUpdate,Sem.run_bind,run_underlying hmt,Result.andThen_ok,Go.MapKept.run_getObj_map hheap,hck,hfk,Go.MapKept.run_setObj_map _ hheap]
   | some j=>
    rw[hj,Option.map_some,Nat.zero_add]at hf;obtain⟨hjl,hjs⟩:=Vp hj;have hin:s∈L:=by rw[←h1];exact List.mem_map.2 ⟨ps[j],List.getElem_mem hjl,hjs⟩
    have hfk:(Instr.findKey kt (B8 s) me.toList).run P w=.ok (some (j,.bool true)) w:=run_findKey (P:=P) (w:=w) hkd (by rw[hml];exact hf)
    have hadd:Ej L s=L:=if_pos hin;rw[hadd];have hmod:(me.modify j fun e=>{ e with key:=B8 s,val:=.bool true })=me:=by rw[h2];exact ZeM hjl hjs
    have e5:((me[j]?).map (·.key)).getD (B8 s)=B8 s:=by
     rw[h2];simp only[List.getElem?_toArray,List.getElem?_map,List.getElem?_eq_getElem hjl,Option.map_some,Option.getD_some]
     show B8 ps[j].1=_
     rw[hjs]
    obtain⟨q1,q2⟩:=hw.put (o:=.ext (XS L)) (ob:=.map me clock) hlS hown (hG _ hown) ⟨hbf,hown,hG,fun w' hw'=>⟨_,_,by
     rw[hw' _ hown];simp only[Array.getElem?_setIfInBounds,if_true,hplt],hset⟩⟩
    refine⟨_,g,?_,q1,q2⟩
    simp only[Instr.mapUpdate,Sem.run_bind,run_underlying hmt,Result.andThen_ok,Go.MapKept.run_getObj_map hheap,hck,hfk,e5,ZbW,hmod,Go.MapKept.run_setObj_map _ hheap]
theorem Zgq{t2:TypeId}(ho:o.op=.call { callee:=.builtin .delete,args:=#[x,k],argTypes:=#[t,t2] })(hmt:P.underlying t=some (.map kt et))(hkd:P.underlying kt=some .string)(hx:ev e x=.mp l)(hk:ev e k=.st s)(hS:S[l]? = some (.ext (XS L))):
  AU P o e S (.tup []) (S.set l (.ext (XS (DZ L s)))):=
 C5 fun ρ w g hw hr=>by
  have hrx:=hr x (by rw[ho];simp[Op.operands,Call.operands])
  have hrk:=hr k (by rw[ho];simp[Op.operands,Call.operands])
  rw[hx]at hrx;rw[hk]at hrk;have hkc:=SQ hrk;generalize hcx:ρ x=cx at hrx;cases hrx with
  | mp _ _ hl hb=>
   obtain⟨hbf,hown,hG,hX⟩:=hw.obj l _ hS;obtain⟨me,clock,hheap,hset⟩:=hX w (fun _ _=>rfl)
   have hplt:g.pl l<w.heap.size:=(Array.getElem?_eq_some_iff.1 hheap).1
   have hlS:=(List.getElem?_eq_some_iff.1 hS).1
   have hck:∀b,(Instr.checkKey b 10000 kt (B8 s)).run P w=.ok () w:=fun b=>run_checkKey (P:=P) (w:=w) hkd (show IsKey .string (B8 s)from trivial) b 9999
   obtain⟨ps,h1,h2,h3,h4,h5⟩:=id hset;have hf:=QO s ps 0;have hml:me.toList=ps.map FE:=by rw[h2]
   suffices H:∃w',(Builtin.delete_ #[t,t2] o.type #[.map (some (g.pl l)),B8 s]).run P w=.ok (.tuple #[]) w'∧WF w' g (S.set l (.ext (XS (DZ L s))))∧Evo w g w' g by
    obtain⟨w',q0,q1,q2⟩:=H;refine⟨.tuple #[],w',g,?_,q1,.tup _ _ _ rfl fun j u v hu hv=>by simp at hu,q2⟩
    unfold execOp;simp only[ho];show Sem.run P (do let d ←resolve ρ _ o.type;invoke d.target d.args) w=_
    simp only[resolve,Sem.run_bind,Sem.run_pure,Result.andThen_ok,invoke,builtin,List.map_toArray,List.map_cons,List.map_nil,hcx,hkc,q0]
   cases hj:ps.findIdx? (fun p=>s==p.1)with
   | none=>
    rw[hj]at hf;have hfk:(Instr.findKey kt (B8 s) me.toList).run P w=.ok none w:=run_findKey (P:=P) (w:=w) hkd (by rw[hml];exact hf)
    have hnot:s∉L:=by rw[←h1];exact Vq hj
    have hd:DZ L s=L:=List.filter_eq_self.2 fun y hy=>by
     have:s≠y:=fun e=>hnot (e▸hy)
     simpa using this
    rw[hd];obtain⟨q1,q2⟩:=hw.put (o:=.ext (XS L)) (ob:=.map me clock) hlS hown (hG _ hown) ⟨hbf,hown,hG,fun w' hw'=>⟨_,_,by
     rw[hw' _ hown];simp only[Array.getElem?_setIfInBounds,if_true,hplt],hset⟩⟩
    refine⟨_,?_,q1,q2⟩
    simp only[Builtin.delete_,List.getElem?_toArray,List.getElem?_cons_zero,List.getElem?_cons_succ,Sem.run_bind,run_underlying hmt,Result.andThen_ok,Go.MapKept.run_getObj_map hheap,hck,hfk,Go.MapKept.run_setObj_map _ hheap,Sem.run_pure]
   | some j=>
    rw[hj,Option.map_some,Nat.zero_add]at hf;obtain⟨hjl,hjs⟩:=Vp hj;have hfk:(Instr.findKey kt (B8 s) me.toList).run P w=.ok (some (j,.bool true)) w:=run_findKey (P:=P) (w:=w) hkd (by rw[hml];exact hf)
    obtain⟨q1,q2⟩:=hw.put (o:=.ext (XS (DZ L s))) (ob:=.map (me.eraseIdxIfInBounds j) clock) hlS hown (hG _ hown) ⟨hbf,hown,hG,fun w' hw'=>⟨me.eraseIdxIfInBounds j,clock,by
     rw[hw' _ hown];simp only[Array.getElem?_setIfInBounds,if_true,hplt],by rw[h2];exact ZeN h1 h3 h4 h5 hjl hjs⟩⟩
    refine⟨_,?_,q1,q2⟩
    simp only[Builtin.delete_,List.getElem?_toArray,List.getElem?_cons_zero,List.getElem?_cons_succ,Sem.run_bind,run_underlying hmt,Result.andThen_ok,Go.MapKept.run_getObj_map hheap,hck,hfk,Go.MapKept.run_setObj_map _ hheap,Sem.run_pure]
theorem Ao.mapS(N0:Nat)(l:Nat)(hS:S[l]? = some (.map [])):Ao N0 e S e (S.set l (.ext (XS []))):=by
 rintro N w0 g0 a w hn ⟨h1,h2,g,h3,h4,h5⟩
 have hlS:=(List.getElem?_eq_some_iff.1 hS).1
 obtain⟨hbf,hown,hG,me,clock,hheap,hsz,hlt,hnd,hrel⟩:=h3.obj l _ hS;have hme:me = #[]:=Array.eq_empty_of_size_eq_zero hsz;let g':Gh:={ g with own:=fun k b=>g.own k b∧(k=l→b=g.pl l) }
 have hle:Le w g w g':=⟨fun _ _ _ _ h=>h,fun _ _ _ h _=>h,Nat.le_refl _,fun _ _=>⟨rfl,.inl ⟨rfl,rfl,rfl⟩⟩,fun _ _ _ h h'=>⟨h,h'⟩⟩
 refine⟨h1,h2,g',h3.touch hlS hle rfl (fun k hk _=>⟨rfl,rfl,rfl,rfl,by funext b;simp[g',hk]⟩) (fun b hb=>.inl hb.1) (Nat.le_refl _) (fun _ _ _=>rfl) (fun _ _ _=>rfl) ?_,fun t=>(h4 t).le hle,h5.trans ⟨hle,rfl,rfl,rfl,Nat.le_refl _,fun _ _ _=>rfl,fun k b hk hb _=>⟨hk,hb.1⟩,fun _ _ _=>rfl⟩⟩
 exact⟨hbf,⟨hown,fun _=>rfl⟩,fun b hb=>by rw[hb.2 rfl];exact hG,fun w' hw'=>⟨me,clock,by rw[hw' _ ⟨hown,fun _=>rfl⟩];exact hheap,[],rfl,by rw[hme];rfl,by simp,by simp,by simp⟩⟩
end
end Pe
end
section
namespace Pe
open Go Go.RowKit
variable [Tab]
section
variable {P:Program} {pf rf:List FuncId} {ops:Array Oper} {Q:Af→Ae→Prop} {fuel:Nat} {listed:Array Bool} {e:Af} {S:Ae}
abbrev Rw(P:Program)(pf rf:List FuncId)(ops:Array Oper)(Q:Af→Ae→Prop)(fuel:Nat)(listed:Array Bool)(e:Af)(S:Ae):Prop:=DL P (Bp P pf rf) .any ops Q fuel listed e S
theorem Tm{o:AO}{K:Af→Ae→Prop}(hg:o.gd=none)(h:BA P pf rf [o] e S K):Bn P pf rf o.op e S (fun v S'=>K (put e o.dst v) S'):=by
 rw[BA]at h;obtain⟨b,hb,h⟩:=CS h;rw[hg]at hb;cases hb
 have h:=h.1 rfl;have e1:(fun v S'=>BA P pf rf [] (put e o.dst v) S' K)=fun v S'=>K (put e o.dst v) S':=by funext v S';rw[BA]
 rw[e1]at h;exact h
theorem M7{o:Oper}(hg:o.guard=none):Cc ops o e=some true:=by unfold Cc;rw[hg]
theorem J5(i:Nat){d:Option Nat}{op:Op}{o:Oper}(hi:ops[i]? = some o)(hd:o.dst=d)(ho:o.op=op)(hg:o.guard=none)(hf:Mh (Bp P pf rf) .any ops listed i=true)(hr:(Region.ready .any ops listed).contains i=true)
  (h:BA P pf rf [⟨d,op,none⟩] e S (Rw P pf rf ops Q fuel (listed.setIfInBounds i true))):DL P (Bp P pf rf) .any ops Q (fuel+1) listed e S:=by
 subst hd ho;obtain⟨v,S',hx,hK⟩:=MX (Tm rfl h);exact O4 hi fuel listed e S S' (QH hi hf) (by simpa using hr) (.inl ⟨M7 hg,hx⟩) hK
theorem ZbU(hne:(Region.ready .any ops listed).isEmpty=false)(h:∀i∈Region.ready .any ops listed,∃o:Oper,ops[i]? = some o∧o.guard=none∧BA P pf rf [⟨o.dst,o.op,none⟩] e S (Rw P pf rf ops Q fuel (listed.setIfInBounds i true))):
  DL P (Bp P pf rf) .any ops Q (fuel+1) listed e S:=by
 refine⟨fun h0=>(by rw[h0]at hne;cases hne),fun i hi=>?_⟩
 obtain⟨o,h1,h2,h3⟩:=h i hi;obtain⟨v,S',hx,hK⟩:=MX (Tm rfl h3);unfold xOp;simp only[h1,M7 h2];exact⟨v,S',hx,hK⟩
end
end Pe
end
section
namespace Pe
open Go Go.RowKit
section
variable {P:Program} [Tab] {pf rf:List FuncId} {N0:Nat} {Q:AX→Af→Ae→Prop} {e:Af} {S:Ae}
theorem ZaO(K K':Af→Ae→Prop):CX (CX Q K) K'=CX Q K':=by funext x;cases x<;>rfl
theorem GW(a b c:CC):AW P pf rf N0 (a.seq (b.seq c)) Q e S=AW P pf rf N0 ((a.seq b).seq c) Q e S:=by
 rw[MV,MV,MV,ZaO];rfl
theorem MW{a b:CC}(I:Af→Ae→Prop)(h1:∀Kt:Af→Ae→Prop,(∀e S,I e S→Kt e S)→AW P pf rf N0 a (CX Q Kt) e S)(h2:∀e S,I e S→AW P pf rf N0 b Q e S):AW P pf rf N0 (a.seq b) Q e S:=h1 _ h2
end
end Pe
end
section
namespace Pe
open Go Go.RowKit
set_option maxRecDepth 100000
set_option maxHeartbeats 4000000
theorem JQ{P:Program}[Tab]{cls:Op→Cls}{ops:Array Oper}{Q:Af→Ae→Prop}(rest:List Oper):∀(l:List Oper) (e:Af) (S:Ae),Da P cls ops (Da P cls ops Q rest) l e S→Da P cls ops Q (l++rest) e S
 |[],_,_,h=>h
 | o::l,e,S,h=>by
  simp only[List.cons_append,Da]at h ⊢;split at h
  ·obtain⟨v,S',hx,h⟩:=h
   exact⟨v,S',hx,JQ rest l _ _ h⟩
  ·exact JQ rest l _ _ h
  ·exact h
def HW(P:Program)[Tab](N N0:Nat)(c:Code)(Q:AX→Af→Ae→Prop)(e:Af)(S:Ae):Prop:=
 ∀(w0:World) (g0:Gh) (a:Act) (w:World),g0.nid=N0→A1 N w0 g0 e S a w→c.wpIn (wR none) 0 P (Fs N w0 g0 Q) a w
section
variable {P:Program} [Tab] {N N0:Nat} {Q:AX→Af→Ae→Prop} {e:Af} {S:Ae}
theorem HW.aw(pf rf:List FuncId){c:Code}(hm:P.follows .mixedOrders=true)(hok:Fh P pf rf N c=true)(h:AW P pf rf N0 (Ex c) Q e S):HW P N N0 c Q e S:=
 fun _ _ _ _ hn hc=>Zj none (.inl rfl) hm hn Q e S _ _ hok hc h
theorem HW.seq{x y:Code}(h:HW P N N0 x (CX Q (HW P N N0 y Q)) e S):HW P N N0 (.seq x y) Q e S:=fun w0 g0 a w hn hc=>by
 refine wpIn_seq (Go.wpIn_mono (h w0 g0 a w hn hc) ?_)
 intro ex a' w' hq;cases ex with
 |normal=>obtain⟨e',S',hc',h'⟩:=hq;exact h' w0 g0 a' w' hn hc'
 |exit id=>exact hq
 |ret=>exact hq
 |_=>exact hq.elim
theorem HW.reg(pf rf:List FuncId){id:Nat}{ops:Array Oper}(hds:DF N ops=true)(h:Da P (Bp P pf rf) ops (Q .norm) ops.toList e S):HW P N N0 (.region id ops false) Q e S:=
 fun _ _ _ _ _ hc=>NN hds (fun e S _ _ hc hq=>⟨e,S,hc,hq⟩) hc h none
theorem AC.hw{f:FuncId}{fn:Func}{c:Code}{args:List AV}{S':Ae}{v:AV}(N:Nat)(hf:P.funcs[f]? = some fn)(hb:fn.body=some c)(hname:fn.name ≠ "runtime.NumGoroutine")(hn:args.length≤fn.ntmps)(hN:fn.ntmps=N)
  (h:HW P N S.length c (Dr P fn.results.toList S.length v S') (Fi args) S):AC P f args S v S':=
 AC.of_wp hf hb hname hn fun w g a hg hc=>by subst hN;exact h w g a w hg hc
end
section
variable {P:Program} [Tab] {N N0:Nat} {Q:AX→Af→Ae→Prop} {e:Af} {S:Ae}
theorem HW.weak{c:Code}{e':Af}{S':Ae}(hw:Ao N0 e S e' S')(h:HW P N N0 c Q e' S'):HW P N N0 c Q e S:=fun w0 g0 a w hn hc=>h w0 g0 a w hn (hw N w0 g0 a w hn hc)
theorem HW.cut{x y:Code}(I:Af→Ae→Prop)(h1:∀K:Af→Ae→Prop,(∀e S,I e S→K e S)→HW P N N0 x (CX Q K) e S)(h2:∀e S,I e S→HW P N N0 y Q e S):HW P N N0 (.seq x y) Q e S:=HW.seq (h1 _ h2)
theorem HW.raw(pf rf:List FuncId){id:Nat}{ops:Array Oper}(hm:P.follows .mixedOrders=true)(hds:DF N ops=true)(h:DL P (Bp P pf rf) .any ops (Q .norm) ops.size (Array.replicate ops.size false) e S):HW P N N0 (.region id ops true) Q e S:=fun w0 g0 a w hn hc=>by
 refine wpIn_region_any hm (HM none (cls:=Bp P pf rf) hds (fun e S _ _ hc hq=>⟨e,S,hc,hq⟩) _ _ e S a _ (hc.draw _) ?_)
 exact h
end
section
variable {P:Program} [Tab] {pf rf:List FuncId} {ops:Array Oper} {Q:Af→Ae→Prop} {fuel:Nat} {listed:Array Bool} {e:Af} {S:Ae}
abbrev ZiT(P:Program)[Tab](pf rf:List FuncId)(ops:Array Oper)(Q:Af→Ae→Prop)(fuel:Nat)(listed:Array Bool)(e:Af)(S:Ae)(i:Nat):Prop:=
 ∃o:Oper,ops[i]? = some o∧o.guard=none∧BA P pf rf [⟨o.dst,o.op,none⟩] e S (Rw P pf rf ops Q fuel (listed.setIfInBounds i true))
theorem ZbS{i:Nat}(hr:Region.ready .any ops listed=[i])(h1:ZiT P pf rf ops Q fuel listed e S i):DL P (Bp P pf rf) .any ops Q (fuel+1) listed e S:=
 ZbU (by rw[hr];rfl) (fun k hk=>by rw[hr,List.mem_singleton]at hk;rw[hk];exact h1)
end
section
variable {P:Program} [Tab] {pf rf:List FuncId} {ops:Array Oper} {Q:Af→Ae→Prop} {fuel:Nat} {listed:Array Bool} {e:Af} {S S':Ae} {v:AV}
theorem NG{i:Nat}{o:Oper}(d:Option Nat)(op:Op)(hr:Region.ready .any ops listed=[i])(hi:ops[i]? = some o)(hd:o.dst=d)(ho:o.op=op)(hg:o.guard=none)(h:BA P pf rf [⟨d,op,none⟩] e S (Rw P pf rf ops Q fuel (listed.setIfInBounds i true))):DL P (Bp P pf rf) .any ops Q (fuel+1) listed e S:=by
 subst hd ho;exact ZbS hr ⟨o,hi,hg,h⟩
theorem NH{i:Nat}{o:Oper}(d:Option Nat)(op:Op)(hr:Region.ready .any ops listed=[i])(hi:ops[i]? = some o)(hd:o.dst=d)(ho:o.op=op)(hg:o.guard=none)(hx:o.op=op→Cl P (Bp P pf rf op) o e S v S')(hK:Rw P pf rf ops Q fuel (listed.setIfInBounds i true) (put e d v) S'):DL P (Bp P pf rf) .any ops Q (fuel+1) listed e S:=
 ⟨fun h0=>(by rw[hr]at h0;cases h0),fun k hk=>by
  subst hd ho;rw[hr,List.mem_singleton]at hk;subst hk;unfold xOp;simp only[hi,M7 hg];exact⟨v,S',hx rfl,hK⟩⟩
theorem ZbR(i:Nat){o:Oper}(d:Option Nat)(op:Op)(hi:ops[i]? = some o)(hd:o.dst=d)(ho:o.op=op)(hg:o.guard=none)(hf:Mh (Bp P pf rf) .any ops listed i=true)(hr:(Region.ready .any ops listed).contains i=true)(hx:o.op=op→Cl P (Bp P pf rf op) o e S v S')(hK:Rw P pf rf ops Q fuel (listed.setIfInBounds i true) (put e d v) S'):DL P (Bp P pf rf) .any ops Q (fuel+1) listed e S:=by
 subst hd ho;exact O4 hi fuel listed e S S' (QH hi hf) (by simpa using hr) (.inl ⟨M7 hg,hx rfl⟩) hK
end
section
variable {P:Program} [Tab] {N N0:Nat} {Q:AX→Af→Ae→Prop} {e:Af} {S:Ae}
theorem HW.block{id:Nat}{c:Code}(h:HW P N N0 c (ET id Q) e S):HW P N N0 (.block id c) Q e S:=fun w0 g0 a w hn hc=>by
 refine wpIn_block (Go.wpIn_mono (h w0 g0 a w hn hc) ?_)
 intro ex a' w' hq;cases ex with
 |normal=>exact hq
 |exit i=>
  obtain⟨e',S',hc',h'⟩:=hq;simp only[ET]at h';simp only[Exit.inBlock];by_cases hi:i=id
  ·rw[if_pos hi]at h' ⊢;exact⟨e',S',hc',h'⟩
  ·rw[if_neg hi]at h' ⊢;exact⟨e',S',hc',h'⟩
 |ret=>exact hq
 |_=>exact hq.elim
theorem HW.loop{c:Code}(I:Nat→Af→Ae→Prop)(n:Nat)(e':Af)(S':Ae)(hwk:Ao N0 e S e' S')(hI:I n e' S')(h:∀n e S,I n e S→HW P N N0 c (CX Q (IZ N0 I n)) e S):HW P N N0 (.loop c) Q e S:=fun w0 g0 a w hn hc=>by
 refine KO (fun n a w=>∃e S,A1 N w0 g0 e S a w∧I n e S) n ⟨e',S',hwk N w0 g0 a w hn hc,hI⟩ ?_
 rintro n a w ⟨e,S,hc,hI⟩
 refine Go.wpIn_mono (h n e S hI w0 g0 a w hn hc) ?_
 intro ex a' w' hq;cases ex with
 |normal=>
  obtain⟨e1,S1,hc1,n',e2,S2,hlt,hwk',hI'⟩:=hq;exact⟨n',hlt,e2,S2,hwk' N w0 g0 a' w' hn hc1,hI'⟩
 |exit i=>exact hq
 |ret=>exact hq
 |_=>exact hq.elim
end
theorem Zgc{P:Program}[Tab]{rs:List ResultVar}{e:Af}{S:Ae}(d l:Nat){n sz:Nat}{cs es:List AV}{ty:TypeId}(hcs:cs=Ak es)(hn:n=es.length)(hsz:AK sz es=true)(hok:cs.all (AV.o1 0)=true)
  (h:C9 P rs (Bv e d (.sl .ro es)) (S.set l .dead)=some [.sl .ro es])(hd:e d=.wr l n none:=by rfl)(hS:S[l]? = some (.row cs ty sz):=by rfl):Dr P rs 0 (.sl .ro es) [] .ret e S:=
 QV _ _ (Ao.frz 0 d l n hd hS hcs hn hsz hok) [] h ⟨List.nodup_nil,rfl,fun i o hi=>by cases hi⟩ rfl rfl rfl
end Pe
end
end Go.Proofs.YtipfggegddlgdaaGreatDoor
