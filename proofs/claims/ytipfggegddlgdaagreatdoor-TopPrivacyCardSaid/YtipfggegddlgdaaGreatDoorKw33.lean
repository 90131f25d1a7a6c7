import Derived.Test.YtipfggegddlgdaaGreatDoorKw32
import Derived.SizedLaws
import Derived.Carry
set_option linter.unusedSectionVars false
set_option linter.unusedVariables false
set_option linter.unusedSimpArgs false
namespace Go.Proofs.YtipfggegddlgdaaGreatDoor
section
namespace topPrivacy
open _root_.Go.Proofs.Tryz
open Go Go.RowKit Go.ChangeShapes Go.WideShapes Go.ChangeAt
open Go.ChangeMaps (setBlock shut_map_nil open_string shut_string keptBut_setBlock frozen?_setBlock heap_setBlock_same)
set_option maxRecDepth 100000
theorem contract(H:Type)(enc:TypeId×Value→H)(W:World)(base:Nat)(args:Array Value)(ds gs:List (DataW H))(before:List MemPlace)
  (hval:∀(j:Nat) t v,f3.params[j]? = some t→args[j]? = some v→Value.okWide prog W .any base t v)
  (hW:DataW.Whole enc prog f3.params.toList Rows.topPrivacySpec.vars false W args.toList ds gs before)(hR:(DataW.weightsEach prog (f3.params.toList++[]) (ds++gs)).all (· ≤ reachBytes)=true)(hL:laidMetH prog Rows.topPrivacyRow.laid W):
  Calls prog 3 args W fun e W'=>∃v,e=.returned v∧Rows.topPrivacySpec.post enc prog f3 false true false false W args v W':=by
 have hW':=hW;obtain⟨p,q,hA0,hV,rfl,hfz,hnd⟩:=hW;have hA:DataW.TrodAll enc prog W 0 (fun _=>true) true f3.params.toList args.toList ds p:=hA0
 rw[Tryz.params3]at hA hval hR;obtain⟨v0,vs0,d0,ds0,p0,q0,hargs,rfl,rfl,h0,r0⟩:=trodAll_cons hA;obtain⟨v1,vs1,d1,ds1,p1,q1,rfl,rfl,rfl,h1,r1⟩:=trodAll_cons r0;obtain⟨rfl,rfl,rfl⟩:=trodAll_nil r1;obtain rfl:args = #[v0,v1]:=by cases args;simp_all
 obtain⟨rfl,rfl⟩:=trodVars_none hV;obtain⟨A0,ln0,cp0,rfl⟩:=okWide_slice underlying22 (hval 0 22 v0 rfl rfl);obtain⟨us0,hs0,hr0⟩:=Pe.open_cell (B:=140737488351232) (n:=11) (by kernel_rfl) rfl h0 (Pe.weights_of hR (j:=0) rfl rfl)
 obtain⟨x0,rfl,hx0⟩:=Pe.shp_wishes hs0;have hr0:=hr0 _ rfl;obtain⟨x1,rfl,rfl,rfl,wf1⟩:=open_int underlying3 (hval 1 3 v1 rfl rfl) h1;have wx1:=bounds_i64 wf1;clear hA0;have hlt:∀x∈(p0++([]++[])),x.block<W.heap.size:=fun x hx=>hW'.lt x (by simpa using hx)
 refine(Pe.law_run (Pe.topPrivacyY_c x0 x1 hx0 wx1) (ZaU (ZaT hL)) (Pe.lrelL (hr0) (Pe.lrelL (.it _ _ _) (Pe.lrel0)))).mono fun e W' ⟨he,hg⟩=>?_
 subst he;exact⟨_,rfl,Zc2 (pa:=(p0++([]++[]))) (pv:=[]) hW' (fun _ _ _=>trodAll_cons_mk (shut_bool underlying4 _) trodAll_mk0)
  (fun sp hsp=>⟨p0,([]++[]),WideElems.Trod_stays (t:=22) Zel (by kernel_rfl) (by decide +kernel) h0 (fun x hx=>hg.same (hlt x (by simp[hx]))) (fun x hx=>hsp x (by simp[hx])),⟨[],[],shut_int underlying3 wf1,rfl,rfl⟩,rfl⟩) (fun _ _=>rfl) (by simp)
  hg (ok_one (by kernel_rfl) rfl (okWide_bool_mk underlying4 _))⟩
end topPrivacy
end
end Go.Proofs.YtipfggegddlgdaaGreatDoor
