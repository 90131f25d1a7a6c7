import Derived.Test.YtchpmmjmimaigaaGreatDoorKh32
import Derived.SizedLaws
import Derived.Carry
set_option linter.unusedSectionVars false
set_option linter.unusedVariables false
set_option linter.unusedSimpArgs false
namespace Go.Proofs.YtchpmmjmimaigaaGreatDoor
section
namespace topHome
open _root_.Go.Proofs.Tryz
open Go Go.RowKit Go.ChangeShapes Go.WideShapes Go.ChangeAt
open Go.ChangeMaps (setBlock shut_map_nil open_string shut_string keptBut_setBlock frozen?_setBlock heap_setBlock_same)
set_option maxRecDepth 100000
theorem contract(H:Type)(enc:TypeId×Value→H)(W:World)(base:Nat)(args:Array Value)(ds gs:List (DataW H))(before:List MemPlace)
  (hval:∀(j:Nat) t v,f3.params[j]? = some t→args[j]? = some v→Value.okWide prog W .any base t v)
  (hW:DataW.Whole enc prog f3.params.toList Rows.topHomeSpec.vars false W args.toList ds gs before)(hR:(DataW.weightsEach prog (f3.params.toList++[]) (ds++gs)).all (· ≤ reachBytes)=true)(hL:laidMetH prog Rows.topHomeRow.laid W):
  Calls prog 3 args W fun e W'=>∃v,e=.returned v∧Rows.topHomeSpec.post enc prog f3 false true false false W args v W':=by
 have hW':=hW;obtain⟨p,q,hA0,hV,rfl,hfz,hnd⟩:=hW;have hA:DataW.TrodAll enc prog W 0 (fun _=>true) true f3.params.toList args.toList ds p:=hA0
 rw[Tryz.params3]at hA hval hR;obtain⟨v0,vs0,d0,ds0,p0,q0,hargs,rfl,rfl,h0,r0⟩:=trodAll_cons hA;obtain⟨v1,vs1,d1,ds1,p1,q1,rfl,rfl,rfl,h1,r1⟩:=trodAll_cons r0;obtain⟨v2,vs2,d2,ds2,p2,q2,rfl,rfl,rfl,h2,r2⟩:=trodAll_cons r1;obtain⟨rfl,rfl,rfl⟩:=trodAll_nil r2;obtain rfl:args = #[v0,v1,v2]:=by cases args;simp_all
 obtain⟨rfl,rfl⟩:=trodVars_none hV;obtain⟨x0,rfl,rfl,rfl,Oc⟩:=open_int underlying3 (hval 0 3 v0 rfl rfl) h0;have wx0:=bounds_i64 Oc;obtain⟨A1,ln1,cp1,rfl⟩:=okWide_slice underlying22 (hval 1 22 v1 rfl rfl);obtain⟨us1,hs1,hr1⟩:=Pe.open_cell (B:=140737488351232) (n:=11) (by kernel_rfl) rfl h1 (Pe.weights_of hR (j:=1) rfl rfl)
 obtain⟨x1,rfl,hx1⟩:=Pe.shp_intsI hs1;have hr1:=hr1 _ rfl;obtain⟨A2,ln2,cp2,rfl⟩:=okWide_slice underlying23 (hval 2 23 v2 rfl rfl);obtain⟨us2,hs2,hr2⟩:=Pe.open_cell (B:=140737488351232) (n:=11) (by kernel_rfl) rfl h2 (Pe.weights_of hR (j:=2) rfl rfl)
 obtain⟨x2,rfl,hx2⟩:=Pe.shp_votes hs2;have hr2:=hr2 _ rfl;clear hA0;have hlt:∀x∈([]++(p1++(p2++[]))),x.block<W.heap.size:=fun x hx=>hW'.lt x (by simpa using hx)
 refine(Pe.law_run (Pe.topHomeY_c x0 x1 x2 wx0 hx1 hx2) (ZcN (ZcM hL)) (Pe.lrelL (.it _ _ _) (Pe.lrelL (hr1) (Pe.lrelL (hr2) (Pe.lrel0))))).mono fun e W' ⟨he,hg⟩=>?_
 subst he;exact⟨_,rfl,Zfu (pa:=([]++(p1++(p2++[])))) (pv:=[]) hW' (fun _ _ _=>trodAll_cons_mk (shut_bool underlying4 _) trodAll_mk0)
  (fun sp hsp=>⟨[],(p1++(p2++[])),shut_int underlying3 Oc,⟨p1,(p2++[]),WideElems.Trod_stays (t:=22) Xc (by kernel_rfl) (by decide +kernel) h1 (fun x hx=>hg.same (hlt x (by simp[hx]))) (fun x hx=>hsp x (by simp[hx])),⟨p2,[],WideElems.Trod_stays (t:=23) Xc (by kernel_rfl) (by decide +kernel) h2 (fun x hx=>hg.same (hlt x (by simp[hx]))) (fun x hx=>hsp x (by simp[hx])),rfl,rfl⟩,rfl⟩,rfl⟩) (fun _ _=>rfl) (by simp)
  hg (ok_one (by kernel_rfl) rfl (okWide_bool_mk underlying4 _))⟩
end topHome
end
end Go.Proofs.YtchpmmjmimaigaaGreatDoor
