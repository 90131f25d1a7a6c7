/- agora/agoralaw16.MirrorRefuses: whatever the input, it answers true and leaves its arguments as they were; the package-level tables it reads hold what the program's text lays. The row's statement and the card's. -/
import Derived.Test.YthbpbkbjdfcnjaaGreatDoorMiO
import Derived.Test.YthbpbkbjdfcnjaaGreatDoorLdU
import Derived.SizedLaws
import Derived.Test.YthbpbkbjdfcnjaaGreatDoorPeW5
import Derived.Carry
set_option linter.unusedSectionVars false
set_option linter.unusedVariables false
set_option linter.unusedSimpArgs false
namespace Go.Proofs.YthbpbkbjdfcnjaaGreatDoor.mirrorRefuses
open Go Go.RowKit Go.ChangeShapes Go.WideShapes Go.ChangeAt
open Go.ChangeMaps (setBlock shut_map_nil open_string shut_string keptBut_setBlock frozen?_setBlock heap_setBlock_same)
set_option maxRecDepth 100000
theorem contract (H : Type) (enc : TypeId × Value → H) (W : World) (base : Nat) (args : Array Value) (ds gs : List (DataW H)) (before : List MemPlace)
  (hval : ∀ (j : Nat) t v, Tryz.f5.params[j]? = some t → args[j]? = some v → Value.okWide Tryz.prog W .any base t v)
  (hW : DataW.Whole enc Tryz.prog Tryz.f5.params.toList Rows.mirrorRefusesSpec.vars false W args.toList ds gs before) (hR : (DataW.weightsEach Tryz.prog (Tryz.f5.params.toList ++ []) (ds ++ gs)).all (· ≤ reachBytes) = true) (hL : laidMetH Tryz.prog Rows.mirrorRefusesRow.laid W) :
  Calls Tryz.prog 5 args W fun e W' => ∃ v, e = .returned v ∧ Rows.mirrorRefusesSpec.post enc Tryz.prog Tryz.f5 false true false false W args v W' := by
 have hW' := hW
 obtain ⟨p, q, hA0, hV, rfl, hfz, hnd⟩ := hW
 have hA : DataW.TrodAll enc Tryz.prog W 0 (fun _ => true) true Tryz.f5.params.toList args.toList ds p := hA0
 rw [Tryz.params5] at hA hval hR
 obtain ⟨v0, vs0, d0, ds0, p0, q0, hargs, rfl, rfl, h0, r0⟩ := trodAll_cons hA
 obtain ⟨v1, vs1, d1, ds1, p1, q1, rfl, rfl, rfl, h1, r1⟩ := trodAll_cons r0
 obtain ⟨v2, vs2, d2, ds2, p2, q2, rfl, rfl, rfl, h2, r2⟩ := trodAll_cons r1
 obtain ⟨v3, vs3, d3, ds3, p3, q3, rfl, rfl, rfl, h3, r3⟩ := trodAll_cons r2
 obtain ⟨v4, vs4, d4, ds4, p4, q4, rfl, rfl, rfl, h4, r4⟩ := trodAll_cons r3
 obtain ⟨v5, vs5, d5, ds5, p5, q5, rfl, rfl, rfl, h5, r5⟩ := trodAll_cons r4
 obtain ⟨v6, vs6, d6, ds6, p6, q6, rfl, rfl, rfl, h6, r6⟩ := trodAll_cons r5
 obtain ⟨v7, vs7, d7, ds7, p7, q7, rfl, rfl, rfl, h7, r7⟩ := trodAll_cons r6
 obtain ⟨rfl, rfl, rfl⟩ := trodAll_nil r7
 obtain rfl : args = #[v0, v1, v2, v3, v4, v5, v6, v7] := by cases args; simp_all
 obtain ⟨rfl, rfl⟩ := trodVars_none hV
 obtain ⟨A0, ln0, cp0, rfl⟩ := okWide_slice Tryz.underlying22 (hval 0 22 v0 rfl rfl)
 obtain ⟨us0, hs0, hr0⟩ := Pe.open_cell (B := 140737488351232) (n := 8) (by kernel_rfl) rfl h0 (Pe.weights_of hR (j := 0) rfl rfl)
 obtain ⟨x0, rfl, hx0⟩ := Pe.shp_intsI hs0
 have hr0 := hr0 _ rfl
 obtain ⟨x1, rfl, rfl, rfl, wf1⟩ := open_int Tryz.underlying3 (hval 1 3 v1 rfl rfl) h1
 have wx1 := bounds_i64 wf1
 obtain ⟨us2, hs2, hr2⟩ := Pe.open_agg (B := 140737488351232) (n := 8) Tryz.underlying24 (by kernel_rfl) (hval 2 24 v2 rfl rfl) h2 (Pe.weights_of hR (j := 2) rfl rfl)
 obtain ⟨x2, rfl, hx2⟩ := Pe.shp_key hs2
 obtain ⟨A3, ln3, cp3, rfl⟩ := okWide_slice Tryz.underlying25 (hval 3 25 v3 rfl rfl)
 obtain ⟨us3, hs3, hr3⟩ := Pe.open_cell (B := 140737488351232) (n := 8) (by kernel_rfl) rfl h3 (Pe.weights_of hR (j := 3) rfl rfl)
 obtain ⟨x3, rfl, hx3⟩ := Pe.shp_entriesI hs3
 have hr3 := hr3 _ rfl
 obtain ⟨us4, hs4, hr4⟩ := Pe.open_agg (B := 140737488351232) (n := 8) Tryz.underlying44 (by kernel_rfl) (hval 4 44 v4 rfl rfl) h4 (Pe.weights_of hR (j := 4) rfl rfl)
 obtain ⟨x4, rfl, hx4⟩ := Pe.shp_step hs4
 obtain ⟨us5, hs5, hr5⟩ := Pe.open_agg (B := 140737488351232) (n := 8) Tryz.underlying38 (by kernel_rfl) (hval 5 38 v5 rfl rfl) h5 (Pe.weights_of hR (j := 5) rfl rfl)
 obtain ⟨x5, rfl, hx5⟩ := Pe.shp_head hs5
 obtain ⟨us6, hs6, hr6⟩ := Pe.open_agg (B := 140737488351232) (n := 8) Tryz.underlying71 (by kernel_rfl) (hval 6 71 v6 rfl rfl) h6 (Pe.weights_of hR (j := 6) rfl rfl)
 obtain ⟨x6, rfl, hx6⟩ := Pe.shp_entryI hs6
 obtain ⟨x7, rfl, rfl, rfl, wf7⟩ := open_int Tryz.underlying3 (hval 7 3 v7 rfl rfl) h7
 have wx7 := bounds_i64 wf7
 clear hA0
 have hlt : ∀ x ∈ (p0 ++ ([] ++ (p2 ++ (p3 ++ (p4 ++ (p5 ++ (p6 ++ ([] ++ [])))))))), x.block < W.heap.size := fun x hx => hW'.lt x (by simpa using hx)
 refine (Pe.law_run (Pe.mirrorRefuses_c x0 x1 x2 x3 x4 x5 x6 x7 hx0 ⟨hx2.1, hx2.2⟩ ⟨hx3.1, hx3.2⟩ hx4 hx6 wx7) (tab_of (tabs_of hL)) (Pe.lrelL (hr0) (Pe.lrelL (.it _ _ _) (Pe.lrelL (hr2) (Pe.lrelL (hr3) (Pe.lrelL (hr4) (Pe.lrelL (hr5) (Pe.lrelL (hr6) (Pe.lrelL (.it _ _ _) (Pe.lrel0)))))))))).mono fun e W' ⟨he, hg⟩ => ?_
 subst he
 exact ⟨_, rfl, post_of_below (pa := (p0 ++ ([] ++ (p2 ++ (p3 ++ (p4 ++ (p5 ++ (p6 ++ ([] ++ []))))))))) (pv := []) hW' (fun _ _ _ => trodAll_cons_mk (shut_bool Tryz.underlying4 _) trodAll_mk0)
  (fun sp hsp => ⟨p0, ([] ++ (p2 ++ (p3 ++ (p4 ++ (p5 ++ (p6 ++ ([] ++ []))))))), WideElems.Trod_stays (t := 22) laidOut (by kernel_rfl) (by decide +kernel) h0 (fun x hx => hg.same (hlt x (by simp [hx]))) (fun x hx => hsp x (by simp [hx])), ⟨[], (p2 ++ (p3 ++ (p4 ++ (p5 ++ (p6 ++ ([] ++ [])))))), shut_int Tryz.underlying3 wf1, ⟨p2, (p3 ++ (p4 ++ (p5 ++ (p6 ++ ([] ++ []))))), WideElems.Trod_stays (t := 24) laidOut (by kernel_rfl) (by decide +kernel) h2 (fun x hx => hg.same (hlt x (by simp [hx]))) (fun x hx => hsp x (by simp [hx])), ⟨p3, (p4 ++ (p5 ++ (p6 ++ ([] ++ [])))), WideElems.Trod_stays (t := 25) laidOut (by kernel_rfl) (by decide +kernel) h3 (fun x hx => hg.same (hlt x (by simp [hx]))) (fun x hx => hsp x (by simp [hx])), ⟨p4, (p5 ++ (p6 ++ ([] ++ []))), WideElems.Trod_stays (t := 44) laidOut (by kernel_rfl) (by decide +kernel) h4 (fun x hx => hg.same (hlt x (by simp [hx]))) (fun x hx => hsp x (by simp [hx])), ⟨p5, (p6 ++ ([] ++ [])), WideElems.Trod_stays (t := 38) laidOut (by kernel_rfl) (by decide +kernel) h5 (fun x hx => hg.same (hlt x (by simp [hx]))) (fun x hx => hsp x (by simp [hx])), ⟨p6, ([] ++ []), WideElems.Trod_stays (t := 71) laidOut (by kernel_rfl) (by decide +kernel) h6 (fun x hx => hg.same (hlt x (by simp [hx]))) (fun x hx => hsp x (by simp [hx])), ⟨[], [], shut_int Tryz.underlying3 wf7, rfl, rfl⟩, rfl⟩, rfl⟩, rfl⟩, rfl⟩, rfl⟩, rfl⟩, rfl⟩) (fun _ _ => rfl) (by simp)
  hg (ok_one (by kernel_rfl) rfl (okWide_bool_mk Tryz.underlying4 _))⟩
theorem laid_met (os : Os) : laidMet Tryz.prog Rows.mirrorRefusesRow.laid ((laidWorld os).forCall (fun _ _ => 0) ⟨#[], #[.slice none 0 0, .int .i64 0, .agg #[.int .i64 0, .int .i64 0], .slice none 0 0, .agg #[.int .i64 0, .int .i64 0], .agg #[.int .i64 0, .int .i64 0, .string ⟨#[]⟩, .int .i64 0, .int .i64 0, .int .i64 0], Pe.zEntry, .int .i64 0], []⟩).memory :=
 laidMet_of_run' 8 (by kernel_rfl) (by kernel_rfl)
theorem reads (os : Os) {H : Type} (enc : TypeId × Value → H) : ∃ places, DataW.whole enc Tryz.prog ((laidWorld os).forCall (fun _ _ => 0) ⟨#[], #[.slice none 0 0, .int .i64 0, .agg #[.int .i64 0, .int .i64 0], .slice none 0 0, .agg #[.int .i64 0, .int .i64 0], .agg #[.int .i64 0, .int .i64 0, .string ⟨#[]⟩, .int .i64 0, .int .i64 0, .int .i64 0], Pe.zEntry, .int .i64 0], []⟩).memory Tryz.f5.params.toList Rows.mirrorRefusesSpec.vars false #[Value.slice none 0 0, Value.int .i64 0, Value.agg #[.int .i64 0, .int .i64 0], Value.slice none 0 0, Value.agg #[.int .i64 0, .int .i64 0], Value.agg #[.int .i64 0, .int .i64 0, .string ⟨#[]⟩, .int .i64 0, .int .i64 0, .int .i64 0], Pe.zEntry, Value.int .i64 0].toList 8 = some ([.nil, .lit (.int .i64 0), .agg [.lit (.int .i64 0), .lit (.int .i64 0)], .nil, .agg [.lit (.int .i64 0), .lit (.int .i64 0)], .agg [.lit (.int .i64 0), .lit (.int .i64 0), .lit (.string []), .lit (.int .i64 0), .agg [.lit (.int .i64 0), .lit (.int .i64 0)]], .agg [.lit (.int .i64 0), .agg [.lit (.int .i64 0), .agg [.lit (.string []), .lit (.int .i64 0), .lit (.string []), .lit (.int .i64 0), .lit (.int .i64 0), .lit (.string []), .lit (.string []), .lit (.int .i64 0), .lit (.string []), .nil, .lit (.string []), .agg [.lit (.string []), .lit (.string []), .lit (.string [])], .lit (.int .i64 0), .nil, .lit (.int .i64 0), .lit (.int .i64 0), .agg [.lit (.int .i64 0), .lit (.int .i64 0)]], .agg [.lit (.string []), .lit (.int .i64 0), .lit (.string []), .lit (.int .i64 0), .lit (.int .i64 0), .lit (.int .i64 0), .lit (.int .i64 0), .agg [.lit (.int .i64 0), .lit (.int .i64 0)]], .agg [.lit (.int .i64 0), .lit (.string []), .lit (.int .i64 0), .lit (.string []), .lit (.int .i64 0), .agg [.lit (.int .i64 0), .lit (.int .i64 0)]], .agg [.lit (.int .i64 0), .lit (.int .i64 0), .lit (.int .i64 0), .lit (.string []), .lit (.string []), .lit (.string []), .nil, .lit (.int .i64 0), .lit (.int .i64 0), .lit (.int .i64 0), .agg [.lit (.int .i64 0), .lit (.int .i64 0)]]]], .lit (.int .i64 0)], [], places) :=
 ⟨[], by kernel_rfl⟩
theorem lifted (os : Os) (started : os.Started) (H : Type) (enc : TypeId × Value → H) (F : Stop.Interp) :
  ReturnsInHanded {} Tryz.checked os 5 .any ((OpenSpec.ofChange Rows.mirrorRefusesSpec).preRow enc Tryz.prog Tryz.f5 Rows.mirrorRefusesRow.domain false Rows.mirrorRefusesRow.laid) (((OpenSpec.ofChange Rows.mirrorRefusesSpec).at F).post enc Tryz.prog Tryz.f5 false true false false) := by
 obtain ⟨places, hx⟩ := reads os enc
 refine returnsInHanded_of_row (C := Tryz.checked) (s := OpenSpec.ofChange Rows.mirrorRefusesSpec) own started (by kernel_rfl) Tryz.func5
  (witness_row_at (enc := enc) (C := Tryz.checked) false (laidWorld os) #[.slice none 0 0, .int .i64 0, .agg #[.int .i64 0, .int .i64 0], .slice none 0 0, .agg #[.int .i64 0, .int .i64 0], .agg #[.int .i64 0, .int .i64 0, .string ⟨#[]⟩, .int .i64 0, .int .i64 0, .int .i64 0], Pe.zEntry, .int .i64 0] rfl (by kernel_rfl) (by kernel_rfl) (by kernel_rfl)
   (OpenSpec.preRow_of_cond 8 hx (by kernel_rfl) (fun k hk => by cases hk) (by kernel_rfl) (laid_met os))) ?_
 intro W base args ds gs before hval hW _ _ hR hL _ _
 exact contract H enc W base args ds gs before hval hW hR hL
theorem said : Rows.MirrorRefusesSaid :=
 OpenClaim.holds_of_cond 5 Tryz.f5 rfl rfl rfl rfl rfl rfl rfl ⟨rfl, rfl, rfl, rfl, rfl⟩ rfl rfl rfl rfl rfl (by kernel_rfl) Tryz.func5 (by kernel_rfl)
  (of_decide_eq_true (by kernel_rfl)) (by unfold Func.isWrapper; first | (rw [if_pos (by decide +kernel)]; kernel_rfl) | (rw [if_neg (by decide +kernel)]; exact ⟨rfl, rfl⟩))
  (fun os started H enc _ F => by rw [OpenClaim.pre_eq_preRow]; exact lifted os started H enc F)
theorem plain (f : FuncId) (fn : Func) (hf : Tryz.pinned.checked.prog.funcNamed "agora/agoralaw16.MirrorRefuses" = some f) (hfn : Tryz.pinned.checked.prog.funcs[f]? = some fn) :
  false = Tryz.pinned.checked.prog.looks [] ∧ ∀ (j : Nat) t, fn.params[j]? = some t → Tryz.pinned.checked.prog.wantsStandIn t = false := by
 obtain rfl : f = 5 := Option.some.inj ((show Tryz.prog.funcNamed "agora/agoralaw16.MirrorRefuses" = some 5 by kernel_rfl).symm.trans hf) |>.symm
 obtain rfl : fn = Tryz.f5 := (Option.some.inj (Tryz.func5.symm.trans hfn)).symm
 refine ⟨by kernel_rfl, fun j t ht => ?_⟩
 rw [Tryz.params5] at ht
 have hm : t ∈ [22, 3, 24, 25, 44, 38, 71, 3] := by simpa using Array.mem_of_getElem? ht
 rcases List.mem_cons.1 hm with rfl | hm
 ·exact (show Tryz.prog.wantsStandIn 22 = false by kernel_rfl)
 rcases List.mem_cons.1 hm with rfl | hm
 ·exact (show Tryz.prog.wantsStandIn 3 = false by kernel_rfl)
 rcases List.mem_cons.1 hm with rfl | hm
 ·exact (show Tryz.prog.wantsStandIn 24 = false by kernel_rfl)
 rcases List.mem_cons.1 hm with rfl | hm
 ·exact (show Tryz.prog.wantsStandIn 25 = false by kernel_rfl)
 rcases List.mem_cons.1 hm with rfl | hm
 ·exact (show Tryz.prog.wantsStandIn 44 = false by kernel_rfl)
 rcases List.mem_cons.1 hm with rfl | hm
 ·exact (show Tryz.prog.wantsStandIn 38 = false by kernel_rfl)
 rcases List.mem_cons.1 hm with rfl | hm
 ·exact (show Tryz.prog.wantsStandIn 71 = false by kernel_rfl)
 rcases List.mem_cons.1 hm with rfl | hm
 ·exact (show Tryz.prog.wantsStandIn 3 = false by kernel_rfl)
 cases hm
theorem card : Rows.MirrorRefusesCardSaid :=
 Claim7.holds_tied_plain_at .later [] _ _ _ _ said (fun _ h => by cases h) (by kernel_rfl) (fun _ h => by cases h) mirrorRefuses_row_tie rfl ⟨rfl, rfl⟩ (by kernel_rfl) rfl plain (by kernel_rfl)
end Go.Proofs.YthbpbkbjdfcnjaaGreatDoor.mirrorRefuses
