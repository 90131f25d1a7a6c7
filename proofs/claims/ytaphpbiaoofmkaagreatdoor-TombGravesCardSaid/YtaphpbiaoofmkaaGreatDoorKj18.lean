/- Several texts in one, without what this claim does not use (tools/shake.py). -/
import Derived.Test.YtaphpbiaoofmkaaGreatDoorKj17
import Derived.SizedLaws
import Derived.Carry
set_option linter.unusedSectionVars false
set_option linter.unusedVariables false
set_option linter.unusedSimpArgs false
section
namespace Go.Proofs.YtaphpbiaoofmkaaGreatDoor.tombGraves
open Go Go.RowKit Go.ChangeShapes Go.WideShapes Go.ChangeAt
open Go.ChangeMaps (setBlock shut_map_nil open_string shut_string keptBut_setBlock frozen?_setBlock heap_setBlock_same)
set_option maxRecDepth 100000
theorem contract (H : Type) (enc : TypeId × Value → H) (W : World) (base : Nat) (args : Array Value) (ds gs : List (DataW H)) (before : List MemPlace)
  (hval : ∀ (j : Nat) t v, Tryz.f6.params[j]? = some t → args[j]? = some v → Value.okWide Tryz.prog W .any base t v)
  (hW : DataW.Whole enc Tryz.prog Tryz.f6.params.toList Rows.tombGravesSpec.vars false W args.toList ds gs before) (hR : (DataW.weightsEach Tryz.prog (Tryz.f6.params.toList ++ []) (ds ++ gs)).all (· ≤ reachBytes) = true) (hL : laidMetH Tryz.prog Rows.tombGravesRow.laid W) :
  Calls Tryz.prog 6 args W fun e W' => ∃ v, e = .returned v ∧ Rows.tombGravesSpec.post enc Tryz.prog Tryz.f6 false true false false W args v W' := by
 have hW' := hW
 obtain ⟨p, q, hA0, hV, rfl, hfz, hnd⟩ := hW
 have hA : DataW.TrodAll enc Tryz.prog W 0 (fun _ => true) true Tryz.f6.params.toList args.toList ds p := hA0
 rw [Tryz.params6] at hA hval hR
 obtain ⟨v0, vs0, d0, ds0, p0, q0, hargs, rfl, rfl, h0, r0⟩ := trodAll_cons hA
 obtain ⟨v1, vs1, d1, ds1, p1, q1, rfl, rfl, rfl, h1, r1⟩ := trodAll_cons r0
 obtain ⟨v2, vs2, d2, ds2, p2, q2, rfl, rfl, rfl, h2, r2⟩ := trodAll_cons r1
 obtain ⟨v3, vs3, d3, ds3, p3, q3, rfl, rfl, rfl, h3, r3⟩ := trodAll_cons r2
 obtain ⟨v4, vs4, d4, ds4, p4, q4, rfl, rfl, rfl, h4, r4⟩ := trodAll_cons r3
 obtain ⟨v5, vs5, d5, ds5, p5, q5, rfl, rfl, rfl, h5, r5⟩ := trodAll_cons r4
 obtain ⟨v6, vs6, d6, ds6, p6, q6, rfl, rfl, rfl, h6, r6⟩ := trodAll_cons r5
 obtain ⟨rfl, rfl, rfl⟩ := trodAll_nil r6
 obtain rfl : args = #[v0, v1, v2, v3, v4, v5, v6] := by cases args; simp_all
 obtain ⟨rfl, rfl⟩ := trodVars_none hV
 obtain ⟨A0, ln0, cp0, rfl⟩ := okWide_slice Tryz.underlying50 (hval 0 50 v0 rfl rfl)
 obtain ⟨us0, hs0, hr0⟩ := Pe.open_cell (B := 140737488351232) (n := 10) (by kernel_rfl) rfl h0 (Pe.weights_of hR (j := 0) rfl rfl)
 obtain ⟨x0, rfl, hx0⟩ := Pe.shp_intsI hs0
 have hr0 := hr0 _ rfl
 obtain ⟨x1, rfl, rfl, rfl, hs1⟩ := open_string Tryz.underlying9 (hval 1 9 v1 rfl rfl) h1
 have rs1 : x1.data.toList.length ≤ 140737488351232 := by simpa [reachBytes] using sized_string hR (j := 1) rfl rfl
 obtain ⟨A2, ln2, cp2, rfl⟩ := okWide_slice Tryz.underlying79 (hval 2 79 v2 rfl rfl)
 obtain ⟨us2, hs2, hr2⟩ := Pe.open_cell (B := 140737488351232) (n := 10) (by kernel_rfl) rfl h2 (Pe.weights_of hR (j := 2) rfl rfl)
 obtain ⟨x2, rfl, hx2⟩ := Pe.shp_entriesI hs2
 have hr2 := hr2 _ rfl
 obtain ⟨x3, rfl, rfl, rfl, wf3⟩ := open_int Tryz.underlying3 (hval 3 3 v3 rfl rfl) h3
 have wx3 := bounds_i64 wf3
 obtain ⟨x4, rfl, rfl, rfl, wf4⟩ := open_int Tryz.underlying3 (hval 4 3 v4 rfl rfl) h4
 have wx4 := bounds_i64 wf4
 obtain ⟨A5, ln5, cp5, rfl⟩ := okWide_slice Tryz.underlying80 (hval 5 80 v5 rfl rfl)
 obtain ⟨us5, hs5, hr5⟩ := Pe.open_cell (B := 140737488351232) (n := 10) (by kernel_rfl) rfl h5 (Pe.weights_of hR (j := 5) rfl rfl)
 obtain ⟨x5, rfl, hx5⟩ := Pe.shp_rcpts hs5
 have hr5 := hr5 _ rfl
 obtain ⟨us6, hs6, hr6⟩ := Pe.open_agg (B := 140737488351232) (n := 10) Tryz.underlying82 (by kernel_rfl) (hval 6 82 v6 rfl rfl) h6 (Pe.weights_of hR (j := 6) rfl rfl)
 obtain ⟨x6, rfl, hx6⟩ := Pe.shp_grave hs6
 clear hA0
 have hlt : ∀ x ∈ (p0 ++ ([] ++ (p2 ++ ([] ++ ([] ++ (p5 ++ (p6 ++ []))))))), x.block < W.heap.size := fun x hx => hW'.lt x (by simpa using hx)
 refine (Pe.law_run (Pe.tombGraves_c x0 x1.data.toList x2 x3 x4 x5 x6 hx0 rs1 hx2.1 hx2.2 hx5.1 hx5.2 hx6) (tab_of (tabs_of hL)) (Pe.lrelL (hr0) (Pe.lrelL (Pe.rel_string _ _ x1) (Pe.lrelL (hr2) (Pe.lrelL (.it _ _ _) (Pe.lrelL (.it _ _ _) (Pe.lrelL (hr5) (Pe.lrelL (hr6) (Pe.lrel0))))))))).mono fun e W' ⟨he, hg⟩ => ?_
 subst he
 exact ⟨_, rfl, post_of_below (pa := (p0 ++ ([] ++ (p2 ++ ([] ++ ([] ++ (p5 ++ (p6 ++ [])))))))) (pv := []) hW' (fun _ _ _ => trodAll_cons_mk (shut_bool Tryz.underlying4 _) trodAll_mk0)
  (fun sp hsp => ⟨p0, ([] ++ (p2 ++ ([] ++ ([] ++ (p5 ++ (p6 ++ [])))))), WideElems.Trod_stays (t := 50) laidOut (by kernel_rfl) (by decide +kernel) h0 (fun x hx => hg.same (hlt x (by simp [hx]))) (fun x hx => hsp x (by simp [hx])), ⟨[], (p2 ++ ([] ++ ([] ++ (p5 ++ (p6 ++ []))))), shut_string Tryz.underlying9 hs1, ⟨p2, ([] ++ ([] ++ (p5 ++ (p6 ++ [])))), WideElems.Trod_stays (t := 79) laidOut (by kernel_rfl) (by decide +kernel) h2 (fun x hx => hg.same (hlt x (by simp [hx]))) (fun x hx => hsp x (by simp [hx])), ⟨[], ([] ++ (p5 ++ (p6 ++ []))), shut_int Tryz.underlying3 wf3, ⟨[], (p5 ++ (p6 ++ [])), shut_int Tryz.underlying3 wf4, ⟨p5, (p6 ++ []), WideElems.Trod_stays (t := 80) laidOut (by kernel_rfl) (by decide +kernel) h5 (fun x hx => hg.same (hlt x (by simp [hx]))) (fun x hx => hsp x (by simp [hx])), ⟨p6, [], WideElems.Trod_stays (t := 82) laidOut (by kernel_rfl) (by decide +kernel) h6 (fun x hx => hg.same (hlt x (by simp [hx]))) (fun x hx => hsp x (by simp [hx])), rfl, rfl⟩, rfl⟩, rfl⟩, rfl⟩, rfl⟩, rfl⟩, rfl⟩) (fun _ _ => rfl) (by simp)
  hg (ok_one (by kernel_rfl) rfl (okWide_bool_mk Tryz.underlying4 _))⟩
end Go.Proofs.YtaphpbiaoofmkaaGreatDoor.tombGraves
end
