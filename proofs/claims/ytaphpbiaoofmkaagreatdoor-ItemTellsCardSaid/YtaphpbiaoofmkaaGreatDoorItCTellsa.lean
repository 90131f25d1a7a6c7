/- agora/agoralaw13.ItemTells: whatever the input, it answers true and leaves its arguments as they were; the package-level tables it reads hold what the program's text lays. The row's statement and the card's. -/
import Derived.Test.YtaphpbiaoofmkaaGreatDoorItT
import Derived.Test.YtaphpbiaoofmkaaGreatDoorLdU
import Derived.SizedLaws
import Derived.Test.YtaphpbiaoofmkaaGreatDoorPeW5
import Derived.Carry
set_option linter.unusedSectionVars false
set_option linter.unusedVariables false
set_option linter.unusedSimpArgs false
namespace Go.Proofs.YtaphpbiaoofmkaaGreatDoor.itemTells
open Go Go.RowKit Go.ChangeShapes Go.WideShapes Go.ChangeAt
open Go.ChangeMaps (setBlock shut_map_nil open_string shut_string keptBut_setBlock frozen?_setBlock heap_setBlock_same)
set_option maxRecDepth 100000
theorem contract (H : Type) (enc : TypeId × Value → H) (W : World) (base : Nat) (args : Array Value) (ds gs : List (DataW H)) (before : List MemPlace)
  (hval : ∀ (j : Nat) t v, Tryz.f4.params[j]? = some t → args[j]? = some v → Value.okWide Tryz.prog W .any base t v)
  (hW : DataW.Whole enc Tryz.prog Tryz.f4.params.toList Rows.itemTellsSpec.vars false W args.toList ds gs before) (hR : (DataW.weightsEach Tryz.prog (Tryz.f4.params.toList ++ []) (ds ++ gs)).all (· ≤ reachBytes) = true) (hL : laidMetH Tryz.prog Rows.itemTellsRow.laid W) :
  Calls Tryz.prog 4 args W fun e W' => ∃ v, e = .returned v ∧ Rows.itemTellsSpec.post enc Tryz.prog Tryz.f4 false true false false W args v W' := by
 have hW' := hW
 obtain ⟨p, q, hA0, hV, rfl, hfz, hnd⟩ := hW
 have hA : DataW.TrodAll enc Tryz.prog W 0 (fun _ => true) true Tryz.f4.params.toList args.toList ds p := hA0
 rw [Tryz.params4] at hA hval hR
 obtain ⟨v0, vs0, d0, ds0, p0, q0, hargs, rfl, rfl, h0, r0⟩ := trodAll_cons hA
 obtain ⟨v1, vs1, d1, ds1, p1, q1, rfl, rfl, rfl, h1, r1⟩ := trodAll_cons r0
 obtain ⟨v2, vs2, d2, ds2, p2, q2, rfl, rfl, rfl, h2, r2⟩ := trodAll_cons r1
 obtain ⟨v3, vs3, d3, ds3, p3, q3, rfl, rfl, rfl, h3, r3⟩ := trodAll_cons r2
 obtain ⟨v4, vs4, d4, ds4, p4, q4, rfl, rfl, rfl, h4, r4⟩ := trodAll_cons r3
 obtain ⟨v5, vs5, d5, ds5, p5, q5, rfl, rfl, rfl, h5, r5⟩ := trodAll_cons r4
 obtain ⟨rfl, rfl, rfl⟩ := trodAll_nil r5
 obtain rfl : args = #[v0, v1, v2, v3, v4, v5] := by cases args; simp_all
 obtain ⟨rfl, rfl⟩ := trodVars_none hV
 obtain ⟨us0, hs0, hr0⟩ := Pe.open_agg (B := 140737488351232) (n := 8) Tryz.underlying49 (by kernel_rfl) (hval 0 49 v0 rfl rfl) h0 (Pe.weights_of hR (j := 0) rfl rfl)
 obtain ⟨x0, rfl, hx0⟩ := Pe.shp_itemI hs0
 obtain ⟨us1, hs1, hr1⟩ := Pe.open_agg (B := 140737488351232) (n := 8) Tryz.underlying49 (by kernel_rfl) (hval 1 49 v1 rfl rfl) h1 (Pe.weights_of hR (j := 1) rfl rfl)
 obtain ⟨x1, rfl, hx1⟩ := Pe.shp_itemI hs1
 obtain ⟨x2, rfl, rfl, rfl, hs2⟩ := open_string Tryz.underlying9 (hval 2 9 v2 rfl rfl) h2
 have rs2 : x2.data.toList.length ≤ 140737488351232 := by simpa [reachBytes] using sized_string hR (j := 2) rfl rfl
 obtain ⟨x3, rfl, rfl, rfl, wf3⟩ := open_int Tryz.underlying3 (hval 3 3 v3 rfl rfl) h3
 have wx3 := bounds_i64 wf3
 obtain ⟨A4, ln4, cp4, rfl⟩ := okWide_slice Tryz.underlying50 (hval 4 50 v4 rfl rfl)
 obtain ⟨us4, hs4, hr4⟩ := Pe.open_cell (B := 140737488351232) (n := 8) (by kernel_rfl) rfl h4 (Pe.weights_of hR (j := 4) rfl rfl)
 obtain ⟨x4, rfl, hx4⟩ := Pe.shp_intsI hs4
 have hr4 := hr4 _ rfl
 obtain ⟨us5, hs5, hr5⟩ := Pe.open_agg (B := 140737488351232) (n := 8) Tryz.underlying31 (by kernel_rfl) (hval 5 31 v5 rfl rfl) h5 (Pe.weights_of hR (j := 5) rfl rfl)
 obtain ⟨x5, rfl, hx5⟩ := Pe.shp_key hs5
 clear hA0
 have hlt : ∀ x ∈ (p0 ++ (p1 ++ ([] ++ ([] ++ (p4 ++ (p5 ++ [])))))), x.block < W.heap.size := fun x hx => hW'.lt x (by simpa using hx)
 refine (Pe.law_run (Pe.itemTells_c x0 x1 x2.data.toList x3 x4 x5 hx0 hx1 rs2 wx3 hx4 hx5) (tab_of (tabs_of hL)) (Pe.lrelL (hr0) (Pe.lrelL (hr1) (Pe.lrelL (Pe.rel_string _ _ x2) (Pe.lrelL (.it _ _ _) (Pe.lrelL (hr4) (Pe.lrelL (hr5) (Pe.lrel0)))))))).mono fun e W' ⟨he, hg⟩ => ?_
 subst he
 exact ⟨_, rfl, post_of_below (pa := (p0 ++ (p1 ++ ([] ++ ([] ++ (p4 ++ (p5 ++ []))))))) (pv := []) hW' (fun _ _ _ => trodAll_cons_mk (shut_bool Tryz.underlying4 _) trodAll_mk0)
  (fun sp hsp => ⟨p0, (p1 ++ ([] ++ ([] ++ (p4 ++ (p5 ++ []))))), WideElems.Trod_stays (t := 49) laidOut (by kernel_rfl) (by decide +kernel) h0 (fun x hx => hg.same (hlt x (by simp [hx]))) (fun x hx => hsp x (by simp [hx])), ⟨p1, ([] ++ ([] ++ (p4 ++ (p5 ++ [])))), WideElems.Trod_stays (t := 49) laidOut (by kernel_rfl) (by decide +kernel) h1 (fun x hx => hg.same (hlt x (by simp [hx]))) (fun x hx => hsp x (by simp [hx])), ⟨[], ([] ++ (p4 ++ (p5 ++ []))), shut_string Tryz.underlying9 hs2, ⟨[], (p4 ++ (p5 ++ [])), shut_int Tryz.underlying3 wf3, ⟨p4, (p5 ++ []), WideElems.Trod_stays (t := 50) laidOut (by kernel_rfl) (by decide +kernel) h4 (fun x hx => hg.same (hlt x (by simp [hx]))) (fun x hx => hsp x (by simp [hx])), ⟨p5, [], WideElems.Trod_stays (t := 31) laidOut (by kernel_rfl) (by decide +kernel) h5 (fun x hx => hg.same (hlt x (by simp [hx]))) (fun x hx => hsp x (by simp [hx])), rfl, rfl⟩, rfl⟩, rfl⟩, rfl⟩, rfl⟩, rfl⟩) (fun _ _ => rfl) (by simp)
  hg (ok_one (by kernel_rfl) rfl (okWide_bool_mk Tryz.underlying4 _))⟩
end Go.Proofs.YtaphpbiaoofmkaaGreatDoor.itemTells
