/- Several texts in one, without what this claim does not use (tools/shake.py). -/
import Derived.Test.YtaphpbiaoofmkaaGreatDoorKl1
import Derived.Test.YtaphpbiaoofmkaaGreatDoorKl2
import Derived.Test.YtaphpbiaoofmkaaGreatDoorKl3
import Derived.Test.YtaphpbiaoofmkaaGreatDoorKl4
import Derived.Test.YtaphpbiaoofmkaaGreatDoorKl5
import Derived.Test.YtaphpbiaoofmkaaGreatDoorKl6
import Derived.Test.YtaphpbiaoofmkaaGreatDoorKl7
import Derived.Test.YtaphpbiaoofmkaaGreatDoorKl8
import Derived.Test.YtaphpbiaoofmkaaGreatDoorKl9
import Derived.Test.YtaphpbiaoofmkaaGreatDoorKl10
import Derived.Test.YtaphpbiaoofmkaaGreatDoorKl11
import Derived.Test.YtaphpbiaoofmkaaGreatDoorKl12
import Derived.Test.YtaphpbiaoofmkaaGreatDoorKl13
import Derived.Test.YtaphpbiaoofmkaaGreatDoorKl14
import Derived.Test.YtaphpbiaoofmkaaGreatDoorKl15
import Derived.Test.YtaphpbiaoofmkaaGreatDoorKl16
import Derived.SizedLaws
import Derived.Carry
set_option linter.unusedSectionVars false
set_option linter.unusedVariables false
set_option linter.unusedSimpArgs false
section
namespace Go.Proofs.YtaphpbiaoofmkaaGreatDoor.tombBinds
open Go Go.RowKit Go.ChangeShapes Go.WideShapes Go.ChangeAt
open Go.ChangeMaps (setBlock shut_map_nil open_string shut_string keptBut_setBlock frozen?_setBlock heap_setBlock_same)
set_option maxRecDepth 100000
theorem contract (H : Type) (enc : TypeId × Value → H) (W : World) (base : Nat) (args : Array Value) (ds gs : List (DataW H)) (before : List MemPlace)
  (hval : ∀ (j : Nat) t v, Tryz.f8.params[j]? = some t → args[j]? = some v → Value.okWide Tryz.prog W .any base t v)
  (hW : DataW.Whole enc Tryz.prog Tryz.f8.params.toList Rows.tombBindsSpec.vars false W args.toList ds gs before) (hR : (DataW.weightsEach Tryz.prog (Tryz.f8.params.toList ++ []) (ds ++ gs)).all (· ≤ reachBytes) = true) (hL : laidMetH Tryz.prog Rows.tombBindsRow.laid W) :
  Calls Tryz.prog 8 args W fun e W' => ∃ v, e = .returned v ∧ Rows.tombBindsSpec.post enc Tryz.prog Tryz.f8 false true false false W args v W' := by
 have hW' := hW
 obtain ⟨p, q, hA0, hV, rfl, hfz, hnd⟩ := hW
 have hA : DataW.TrodAll enc Tryz.prog W 0 (fun _ => true) true Tryz.f8.params.toList args.toList ds p := hA0
 rw [Tryz.params8] at hA hval hR
 obtain ⟨v0, vs0, d0, ds0, p0, q0, hargs, rfl, rfl, h0, r0⟩ := trodAll_cons hA
 obtain ⟨v1, vs1, d1, ds1, p1, q1, rfl, rfl, rfl, h1, r1⟩ := trodAll_cons r0
 obtain ⟨v2, vs2, d2, ds2, p2, q2, rfl, rfl, rfl, h2, r2⟩ := trodAll_cons r1
 obtain ⟨v3, vs3, d3, ds3, p3, q3, rfl, rfl, rfl, h3, r3⟩ := trodAll_cons r2
 obtain ⟨v4, vs4, d4, ds4, p4, q4, rfl, rfl, rfl, h4, r4⟩ := trodAll_cons r3
 obtain ⟨rfl, rfl, rfl⟩ := trodAll_nil r4
 obtain rfl : args = #[v0, v1, v2, v3, v4] := by cases args; simp_all
 obtain ⟨rfl, rfl⟩ := trodVars_none hV
 obtain ⟨x0, rfl, rfl, rfl, hs0⟩ := open_string Tryz.underlying9 (hval 0 9 v0 rfl rfl) h0
 have rs0 : x0.data.toList.length ≤ 140737488351232 := by simpa [reachBytes] using sized_string hR (j := 0) rfl rfl
 obtain ⟨x1, rfl, rfl, rfl, hs1⟩ := open_string Tryz.underlying9 (hval 1 9 v1 rfl rfl) h1
 have rs1 : x1.data.toList.length ≤ 140737488351232 := by simpa [reachBytes] using sized_string hR (j := 1) rfl rfl
 obtain ⟨A2, ln2, cp2, rfl⟩ := okWide_slice Tryz.underlying79 (hval 2 79 v2 rfl rfl)
 obtain ⟨us2, hs2, hr2⟩ := Pe.open_cell (B := 140737488351232) (n := 10) (by kernel_rfl) rfl h2 (Pe.weights_of hR (j := 2) rfl rfl)
 obtain ⟨x2, rfl, hx2⟩ := Pe.shp_entriesI hs2
 have hr2 := hr2 _ rfl
 obtain ⟨x3, rfl, rfl, rfl, wf3⟩ := open_int Tryz.underlying3 (hval 3 3 v3 rfl rfl) h3
 have wx3 := bounds_i64 wf3
 obtain ⟨us4, hs4, hr4⟩ := Pe.open_agg (B := 140737488351232) (n := 10) Tryz.underlying82 (by kernel_rfl) (hval 4 82 v4 rfl rfl) h4 (Pe.weights_of hR (j := 4) rfl rfl)
 obtain ⟨x4, rfl, hx4⟩ := Pe.shp_grave hs4
 clear hA0
 have hlt : ∀ x ∈ ([] ++ ([] ++ (p2 ++ ([] ++ (p4 ++ []))))), x.block < W.heap.size := fun x hx => hW'.lt x (by simpa using hx)
 refine (Pe.law_run (Pe.tombBinds_c x0.data.toList x1.data.toList x2 x3 x4 rs0 rs1 hx2.1 hx2.2 wx3 hx4) (tab_of (tabs_of hL)) (Pe.lrelL (Pe.rel_string _ _ x0) (Pe.lrelL (Pe.rel_string _ _ x1) (Pe.lrelL (hr2) (Pe.lrelL (.it _ _ _) (Pe.lrelL (hr4) (Pe.lrel0))))))).mono fun e W' ⟨he, hg⟩ => ?_
 subst he
 exact ⟨_, rfl, post_of_below (pa := ([] ++ ([] ++ (p2 ++ ([] ++ (p4 ++ [])))))) (pv := []) hW' (fun _ _ _ => trodAll_cons_mk (shut_bool Tryz.underlying4 _) trodAll_mk0)
  (fun sp hsp => ⟨[], ([] ++ (p2 ++ ([] ++ (p4 ++ [])))), shut_string Tryz.underlying9 hs0, ⟨[], (p2 ++ ([] ++ (p4 ++ []))), shut_string Tryz.underlying9 hs1, ⟨p2, ([] ++ (p4 ++ [])), WideElems.Trod_stays (t := 79) laidOut (by kernel_rfl) (by decide +kernel) h2 (fun x hx => hg.same (hlt x (by simp [hx]))) (fun x hx => hsp x (by simp [hx])), ⟨[], (p4 ++ []), shut_int Tryz.underlying3 wf3, ⟨p4, [], WideElems.Trod_stays (t := 82) laidOut (by kernel_rfl) (by decide +kernel) h4 (fun x hx => hg.same (hlt x (by simp [hx]))) (fun x hx => hsp x (by simp [hx])), rfl, rfl⟩, rfl⟩, rfl⟩, rfl⟩, rfl⟩) (fun _ _ => rfl) (by simp)
  hg (ok_one (by kernel_rfl) rfl (okWide_bool_mk Tryz.underlying4 _))⟩
end Go.Proofs.YtaphpbiaoofmkaaGreatDoor.tombBinds
end
