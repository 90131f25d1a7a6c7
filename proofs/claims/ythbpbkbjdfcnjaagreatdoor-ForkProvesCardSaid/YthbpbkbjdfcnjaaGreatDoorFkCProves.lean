/- agora/agoralaw17.ForkProves: whatever the input, it answers true and leaves its arguments as they were; the package-level tables it reads hold what the program's text lays. The row's statement and the card's. -/
import Derived.Test.YthbpbkbjdfcnjaaGreatDoorFkV
import Derived.Test.YthbpbkbjdfcnjaaGreatDoorLdU
import Derived.SizedLaws
import Derived.Test.YthbpbkbjdfcnjaaGreatDoorPeW5
import Derived.Carry
set_option linter.unusedSectionVars false
set_option linter.unusedVariables false
set_option linter.unusedSimpArgs false
namespace Go.Proofs.YthbpbkbjdfcnjaaGreatDoor.forkProves
open Go Go.RowKit Go.ChangeShapes Go.WideShapes Go.ChangeAt
open Go.ChangeMaps (setBlock shut_map_nil open_string shut_string keptBut_setBlock frozen?_setBlock heap_setBlock_same)
set_option maxRecDepth 100000
theorem contract (H : Type) (enc : TypeId × Value → H) (W : World) (base : Nat) (args : Array Value) (ds gs : List (DataW H)) (before : List MemPlace)
  (hval : ∀ (j : Nat) t v, Tryz.f7.params[j]? = some t → args[j]? = some v → Value.okWide Tryz.prog W .any base t v)
  (hW : DataW.Whole enc Tryz.prog Tryz.f7.params.toList Rows.forkProvesSpec.vars false W args.toList ds gs before) (hR : (DataW.weightsEach Tryz.prog (Tryz.f7.params.toList ++ []) (ds ++ gs)).all (· ≤ reachBytes) = true) (hL : laidMetH Tryz.prog Rows.forkProvesRow.laid W) :
  Calls Tryz.prog 7 args W fun e W' => ∃ v, e = .returned v ∧ Rows.forkProvesSpec.post enc Tryz.prog Tryz.f7 false true false false W args v W' := by
 have hW' := hW
 obtain ⟨p, q, hA0, hV, rfl, hfz, hnd⟩ := hW
 have hA : DataW.TrodAll enc Tryz.prog W 0 (fun _ => true) true Tryz.f7.params.toList args.toList ds p := hA0
 rw [Tryz.params7] at hA hval hR
 obtain ⟨v0, vs0, d0, ds0, p0, q0, hargs, rfl, rfl, h0, r0⟩ := trodAll_cons hA
 obtain ⟨v1, vs1, d1, ds1, p1, q1, rfl, rfl, rfl, h1, r1⟩ := trodAll_cons r0
 obtain ⟨v2, vs2, d2, ds2, p2, q2, rfl, rfl, rfl, h2, r2⟩ := trodAll_cons r1
 obtain ⟨v3, vs3, d3, ds3, p3, q3, rfl, rfl, rfl, h3, r3⟩ := trodAll_cons r2
 obtain ⟨v4, vs4, d4, ds4, p4, q4, rfl, rfl, rfl, h4, r4⟩ := trodAll_cons r3
 obtain ⟨rfl, rfl, rfl⟩ := trodAll_nil r4
 obtain rfl : args = #[v0, v1, v2, v3, v4] := by cases args; simp_all
 obtain ⟨rfl, rfl⟩ := trodVars_none hV
 obtain ⟨x0, rfl, rfl, rfl, hs0⟩ := open_string Tryz.underlying9 (hval 0 9 v0 rfl rfl) h0
 have rs0 : x0.data.toList.length ≤ 140737488351232 := by simpa [reachBytes] using sized_string hR (j := 0) rfl rfl
 obtain ⟨x1, rfl, rfl, rfl, wf1⟩ := open_int Tryz.underlying3 (hval 1 3 v1 rfl rfl) h1
 have wx1 := bounds_i64 wf1
 obtain ⟨A2, ln2, cp2, rfl⟩ := okWide_slice Tryz.underlying25 (hval 2 25 v2 rfl rfl)
 obtain ⟨us2, hs2, hr2⟩ := Pe.open_cell (B := 140737488351232) (n := 8) (by kernel_rfl) rfl h2 (Pe.weights_of hR (j := 2) rfl rfl)
 obtain ⟨x2, rfl, hx2⟩ := Pe.shp_entriesI hs2
 have hr2 := hr2 _ rfl
 obtain ⟨A3, ln3, cp3, rfl⟩ := okWide_slice Tryz.underlying25 (hval 3 25 v3 rfl rfl)
 obtain ⟨us3, hs3, hr3⟩ := Pe.open_cell (B := 140737488351232) (n := 8) (by kernel_rfl) rfl h3 (Pe.weights_of hR (j := 3) rfl rfl)
 obtain ⟨x3, rfl, hx3⟩ := Pe.shp_entriesI hs3
 have hr3 := hr3 _ rfl
 obtain ⟨A4, ln4, cp4, rfl⟩ := okWide_slice Tryz.underlying22 (hval 4 22 v4 rfl rfl)
 obtain ⟨us4, hs4, hr4⟩ := Pe.open_cell (B := 140737488351232) (n := 8) (by kernel_rfl) rfl h4 (Pe.weights_of hR (j := 4) rfl rfl)
 obtain ⟨x4, rfl, hx4⟩ := Pe.shp_intsI hs4
 have hr4 := hr4 _ rfl
 clear hA0
 have hlt : ∀ x ∈ ([] ++ ([] ++ (p2 ++ (p3 ++ (p4 ++ []))))), x.block < W.heap.size := fun x hx => hW'.lt x (by simpa using hx)
 refine (Pe.law_run (Pe.forkProves_c x0.data.toList x1 x2 x3 x4 rs0 ⟨hx2.1, hx2.2⟩ ⟨hx3.1, hx3.2⟩ hx4) (tab_of (tabs_of hL)) (Pe.lrelL (Pe.rel_string _ _ x0) (Pe.lrelL (.it _ _ _) (Pe.lrelL (hr2) (Pe.lrelL (hr3) (Pe.lrelL (hr4) (Pe.lrel0))))))).mono fun e W' ⟨he, hg⟩ => ?_
 subst he
 exact ⟨_, rfl, post_of_below (pa := ([] ++ ([] ++ (p2 ++ (p3 ++ (p4 ++ [])))))) (pv := []) hW' (fun _ _ _ => trodAll_cons_mk (shut_bool Tryz.underlying4 _) trodAll_mk0)
  (fun sp hsp => ⟨[], ([] ++ (p2 ++ (p3 ++ (p4 ++ [])))), shut_string Tryz.underlying9 hs0, ⟨[], (p2 ++ (p3 ++ (p4 ++ []))), shut_int Tryz.underlying3 wf1, ⟨p2, (p3 ++ (p4 ++ [])), WideElems.Trod_stays (t := 25) laidOut (by kernel_rfl) (by decide +kernel) h2 (fun x hx => hg.same (hlt x (by simp [hx]))) (fun x hx => hsp x (by simp [hx])), ⟨p3, (p4 ++ []), WideElems.Trod_stays (t := 25) laidOut (by kernel_rfl) (by decide +kernel) h3 (fun x hx => hg.same (hlt x (by simp [hx]))) (fun x hx => hsp x (by simp [hx])), ⟨p4, [], WideElems.Trod_stays (t := 22) laidOut (by kernel_rfl) (by decide +kernel) h4 (fun x hx => hg.same (hlt x (by simp [hx]))) (fun x hx => hsp x (by simp [hx])), rfl, rfl⟩, rfl⟩, rfl⟩, rfl⟩, rfl⟩) (fun _ _ => rfl) (by simp)
  hg (ok_one (by kernel_rfl) rfl (okWide_bool_mk Tryz.underlying4 _))⟩
theorem laid_met (os : Os) : laidMet Tryz.prog Rows.forkProvesRow.laid ((laidWorld os).forCall (fun _ _ => 0) ⟨#[], #[.string ⟨#[]⟩, .int .i64 0, .slice none 0 0, .slice none 0 0, .slice none 0 0], []⟩).memory :=
 laidMet_of_run' 8 (by kernel_rfl) (by kernel_rfl)
theorem reads (os : Os) {H : Type} (enc : TypeId × Value → H) : ∃ places, DataW.whole enc Tryz.prog ((laidWorld os).forCall (fun _ _ => 0) ⟨#[], #[.string ⟨#[]⟩, .int .i64 0, .slice none 0 0, .slice none 0 0, .slice none 0 0], []⟩).memory Tryz.f7.params.toList Rows.forkProvesSpec.vars false #[Value.string ⟨#[]⟩, Value.int .i64 0, Value.slice none 0 0, Value.slice none 0 0, Value.slice none 0 0].toList 8 = some ([.lit (.string []), .lit (.int .i64 0), .nil, .nil, .nil], [], places) :=
 ⟨[], by kernel_rfl⟩
theorem lifted (os : Os) (started : os.Started) (H : Type) (enc : TypeId × Value → H) (F : Stop.Interp) :
  ReturnsInHanded {} Tryz.checked os 7 .any ((OpenSpec.ofChange Rows.forkProvesSpec).preRow enc Tryz.prog Tryz.f7 Rows.forkProvesRow.domain false Rows.forkProvesRow.laid) (((OpenSpec.ofChange Rows.forkProvesSpec).at F).post enc Tryz.prog Tryz.f7 false true false false) := by
 obtain ⟨places, hx⟩ := reads os enc
 refine returnsInHanded_of_row (C := Tryz.checked) (s := OpenSpec.ofChange Rows.forkProvesSpec) own started (by kernel_rfl) Tryz.func7
  (witness_row_at (enc := enc) (C := Tryz.checked) false (laidWorld os) #[.string ⟨#[]⟩, .int .i64 0, .slice none 0 0, .slice none 0 0, .slice none 0 0] rfl (by kernel_rfl) (by kernel_rfl) (by kernel_rfl)
   (OpenSpec.preRow_of_cond 8 hx (by kernel_rfl) (fun k hk => by cases hk) (by kernel_rfl) (laid_met os))) ?_
 intro W base args ds gs before hval hW _ _ hR hL _ _
 exact contract H enc W base args ds gs before hval hW hR hL
theorem said : Rows.ForkProvesSaid :=
 OpenClaim.holds_of_cond 7 Tryz.f7 rfl rfl rfl rfl rfl rfl rfl ⟨rfl, rfl, rfl, rfl, rfl⟩ rfl rfl rfl rfl rfl (by kernel_rfl) Tryz.func7 (by kernel_rfl)
  (of_decide_eq_true (by kernel_rfl)) (by unfold Func.isWrapper; first | (rw [if_pos (by decide +kernel)]; kernel_rfl) | (rw [if_neg (by decide +kernel)]; exact ⟨rfl, rfl⟩))
  (fun os started H enc _ F => by rw [OpenClaim.pre_eq_preRow]; exact lifted os started H enc F)
theorem plain (f : FuncId) (fn : Func) (hf : Tryz.pinned.checked.prog.funcNamed "agora/agoralaw17.ForkProves" = some f) (hfn : Tryz.pinned.checked.prog.funcs[f]? = some fn) :
  false = Tryz.pinned.checked.prog.looks [] ∧ ∀ (j : Nat) t, fn.params[j]? = some t → Tryz.pinned.checked.prog.wantsStandIn t = false := by
 obtain rfl : f = 7 := Option.some.inj ((show Tryz.prog.funcNamed "agora/agoralaw17.ForkProves" = some 7 by kernel_rfl).symm.trans hf) |>.symm
 obtain rfl : fn = Tryz.f7 := (Option.some.inj (Tryz.func7.symm.trans hfn)).symm
 refine ⟨by kernel_rfl, fun j t ht => ?_⟩
 rw [Tryz.params7] at ht
 have hm : t ∈ [9, 3, 25, 25, 22] := by simpa using Array.mem_of_getElem? ht
 rcases List.mem_cons.1 hm with rfl | hm
 ·exact (show Tryz.prog.wantsStandIn 9 = false by kernel_rfl)
 rcases List.mem_cons.1 hm with rfl | hm
 ·exact (show Tryz.prog.wantsStandIn 3 = false by kernel_rfl)
 rcases List.mem_cons.1 hm with rfl | hm
 ·exact (show Tryz.prog.wantsStandIn 25 = false by kernel_rfl)
 rcases List.mem_cons.1 hm with rfl | hm
 ·exact (show Tryz.prog.wantsStandIn 25 = false by kernel_rfl)
 rcases List.mem_cons.1 hm with rfl | hm
 ·exact (show Tryz.prog.wantsStandIn 22 = false by kernel_rfl)
 cases hm
theorem card : Rows.ForkProvesCardSaid :=
 Claim7.holds_tied_plain_at .later [] _ _ _ _ said (fun _ h => by cases h) (by kernel_rfl) (fun _ h => by cases h) forkProves_row_tie rfl ⟨rfl, rfl⟩ (by kernel_rfl) rfl plain (by kernel_rfl)
end Go.Proofs.YthbpbkbjdfcnjaaGreatDoor.forkProves
