/- agora/agoralaw13.ItemBinds: whatever the input, it answers true and leaves its arguments as they were; the package-level tables it reads hold what the program's text lays. The row's statement and the card's. -/
import Derived.Test.YtnjjldhcpiehkaaGreatDoorItI
import Derived.Test.YtnjjldhcpiehkaaGreatDoorMkLd
import Derived.SizedLaws
import Derived.Test.YtnjjldhcpiehkaaGreatDoorPeW5
import Derived.Carry
namespace Go.Proofs.YtnjjldhcpiehkaaGreatDoor.itemBinds
set_option linter.unusedSectionVars false
set_option linter.unusedVariables false
set_option linter.unusedSimpArgs false
open Go Go.RowKit Go.ChangeShapes Go.WideShapes Go.ChangeAt
open Go.ChangeMaps (setBlock shut_map_nil open_string shut_string keptBut_setBlock frozen?_setBlock heap_setBlock_same)
set_option maxRecDepth 100000
theorem contract (H : Type) (enc : TypeId × Value → H) (W : World) (base : Nat) (args : Array Value) (ds gs : List (DataW H)) (before : List MemPlace)
    (hval : ∀ (j : Nat) t v, Tryz.f4.params[j]? = some t → args[j]? = some v → Value.okWide Tryz.prog W .any base t v)
    (hW : DataW.Whole enc Tryz.prog Tryz.f4.params.toList Rows.itemBindsSpec.vars false W args.toList ds gs before) (hR : (DataW.weightsEach Tryz.prog (Tryz.f4.params.toList ++ []) (ds ++ gs)).all (· ≤ reachBytes) = true) (hL : laidMetH Tryz.prog Rows.itemBindsRow.laid W) :
    Calls Tryz.prog 4 args W fun e W' => ∃ v, e = .returned v ∧ Rows.itemBindsSpec.post enc Tryz.prog Tryz.f4 false true false false W args v W' := by
  have hW' := hW
  obtain ⟨p, q, hA0, hV, rfl, hfz, hnd⟩ := hW
  have hA : DataW.TrodAll enc Tryz.prog W 0 (fun _ => true) true Tryz.f4.params.toList args.toList ds p := hA0
  rw [Tryz.params4] at hA hval hR
  obtain ⟨v0, vs0, d0, ds0, p0, q0, hargs, rfl, rfl, h0, r0⟩ := trodAll_cons hA
  obtain ⟨v1, vs1, d1, ds1, p1, q1, rfl, rfl, rfl, h1, r1⟩ := trodAll_cons r0
  obtain ⟨v2, vs2, d2, ds2, p2, q2, rfl, rfl, rfl, h2, r2⟩ := trodAll_cons r1
  obtain ⟨rfl, rfl, rfl⟩ := trodAll_nil r2
  obtain rfl : args = #[v0, v1, v2] := by cases args; simp_all
  obtain ⟨rfl, rfl⟩ := trodVars_none hV
  obtain ⟨us0, hs0, hr0⟩ := Pe.open_agg (B := 140737488351232) (n := 8) Tryz.underlying37 (by kernel_rfl) (hval 0 37 v0 rfl rfl) h0 (Pe.weights_of hR (j := 0) rfl rfl)
  obtain ⟨x0, rfl, hx0⟩ := Pe.shp_itemI hs0
  obtain ⟨us1, hs1, hr1⟩ := Pe.open_agg (B := 140737488351232) (n := 8) Tryz.underlying37 (by kernel_rfl) (hval 1 37 v1 rfl rfl) h1 (Pe.weights_of hR (j := 1) rfl rfl)
  obtain ⟨x1, rfl, hx1⟩ := Pe.shp_itemI hs1
  obtain ⟨A2, ln2, cp2, rfl⟩ := okWide_slice Tryz.underlying45 (hval 2 45 v2 rfl rfl)
  obtain ⟨us2, hs2, hr2⟩ := Pe.open_cell (B := 140737488351232) (n := 8) (by kernel_rfl) rfl h2 (Pe.weights_of hR (j := 2) rfl rfl)
  obtain ⟨x2, rfl, hx2⟩ := Pe.shp_intsI hs2
  have hr2 := hr2 _ rfl
  clear hA0
  have hlt : ∀ x ∈ (p0 ++ (p1 ++ (p2 ++ []))), x.block < W.heap.size := fun x hx => hW'.lt x (by simpa using hx)
  refine (Pe.law_run (Pe.itemBinds_c x0 x1 x2 hx0 hx1 hx2) (tab_of (tabs_of hL)) (Pe.lrelL (hr0) (Pe.lrelL (hr1) (Pe.lrelL (hr2) (Pe.lrel0))))).mono fun e W' ⟨he, hg⟩ => ?_
  subst he
  exact ⟨_, rfl, post_of_below (pa := (p0 ++ (p1 ++ (p2 ++ [])))) (pv := []) hW' (fun _ _ _ => trodAll_cons_mk (shut_bool Tryz.underlying4 _) trodAll_mk0)
    (fun sp hsp => ⟨p0, (p1 ++ (p2 ++ [])), WideElems.Trod_stays (t := 37) laidOut (by kernel_rfl) (by decide +kernel) h0 (fun x hx => hg.same (hlt x (by simp [hx]))) (fun x hx => hsp x (by simp [hx])), ⟨p1, (p2 ++ []), WideElems.Trod_stays (t := 37) laidOut (by kernel_rfl) (by decide +kernel) h1 (fun x hx => hg.same (hlt x (by simp [hx]))) (fun x hx => hsp x (by simp [hx])), ⟨p2, [], WideElems.Trod_stays (t := 45) laidOut (by kernel_rfl) (by decide +kernel) h2 (fun x hx => hg.same (hlt x (by simp [hx]))) (fun x hx => hsp x (by simp [hx])), rfl, rfl⟩, rfl⟩, rfl⟩) (fun _ _ => rfl) (by simp)
    hg (ok_one (by kernel_rfl) rfl (okWide_bool_mk Tryz.underlying4 _))⟩
theorem laid_met (os : Os) : laidMet Tryz.prog Rows.itemBindsRow.laid ((laidWorld os).forCall (fun _ _ => 0) ⟨#[], #[Pe.zItem, Pe.zItem, .slice none 0 0], []⟩).memory :=
  laidMet_of_run' 8 (by kernel_rfl) (by kernel_rfl)
theorem reads (os : Os) {H : Type} (enc : TypeId × Value → H) : ∃ places, DataW.whole enc Tryz.prog ((laidWorld os).forCall (fun _ _ => 0) ⟨#[], #[Pe.zItem, Pe.zItem, .slice none 0 0], []⟩).memory Tryz.f4.params.toList Rows.itemBindsSpec.vars false #[Pe.zItem, Pe.zItem, Value.slice none 0 0].toList 8 = some ([.agg [.lit (.int .i64 0), .agg [.lit (.string []), .lit (.int .i64 0), .lit (.string []), .lit (.int .i64 0), .lit (.int .i64 0), .lit (.string []), .lit (.string []), .lit (.int .i64 0), .lit (.string []), .nil, .lit (.string []), .agg [.lit (.string []), .lit (.string []), .lit (.string [])], .lit (.int .i64 0), .nil, .lit (.int .i64 0), .lit (.int .i64 0), .agg [.lit (.int .i64 0), .lit (.int .i64 0)]], .agg [.lit (.string []), .lit (.int .i64 0), .lit (.string []), .lit (.int .i64 0), .lit (.int .i64 0), .lit (.int .i64 0), .lit (.int .i64 0), .agg [.lit (.int .i64 0), .lit (.int .i64 0)]], .agg [.lit (.int .i64 0), .lit (.string []), .lit (.int .i64 0), .lit (.string []), .lit (.int .i64 0), .agg [.lit (.int .i64 0), .lit (.int .i64 0)]], .agg [.lit (.int .i64 0), .lit (.int .i64 0), .lit (.int .i64 0), .lit (.string []), .lit (.string []), .lit (.string []), .nil, .lit (.int .i64 0), .lit (.int .i64 0), .lit (.int .i64 0), .agg [.lit (.int .i64 0), .lit (.int .i64 0)]]], .agg [.lit (.int .i64 0), .agg [.lit (.string []), .lit (.int .i64 0), .lit (.string []), .lit (.int .i64 0), .lit (.int .i64 0), .lit (.string []), .lit (.string []), .lit (.int .i64 0), .lit (.string []), .nil, .lit (.string []), .agg [.lit (.string []), .lit (.string []), .lit (.string [])], .lit (.int .i64 0), .nil, .lit (.int .i64 0), .lit (.int .i64 0), .agg [.lit (.int .i64 0), .lit (.int .i64 0)]], .agg [.lit (.string []), .lit (.int .i64 0), .lit (.string []), .lit (.int .i64 0), .lit (.int .i64 0), .lit (.int .i64 0), .lit (.int .i64 0), .agg [.lit (.int .i64 0), .lit (.int .i64 0)]], .agg [.lit (.int .i64 0), .lit (.string []), .lit (.int .i64 0), .lit (.string []), .lit (.int .i64 0), .agg [.lit (.int .i64 0), .lit (.int .i64 0)]], .agg [.lit (.int .i64 0), .lit (.int .i64 0), .lit (.int .i64 0), .lit (.string []), .lit (.string []), .lit (.string []), .nil, .lit (.int .i64 0), .lit (.int .i64 0), .lit (.int .i64 0), .agg [.lit (.int .i64 0), .lit (.int .i64 0)]]], .nil], [], places) :=
  ⟨[], by kernel_rfl⟩
theorem lifted (os : Os) (started : os.Started) (H : Type) (enc : TypeId × Value → H) (F : Stop.Interp) :
    ReturnsInHanded {} Tryz.checked os 4 .any ((OpenSpec.ofChange Rows.itemBindsSpec).preRow enc Tryz.prog Tryz.f4 Rows.itemBindsRow.domain false Rows.itemBindsRow.laid) (((OpenSpec.ofChange Rows.itemBindsSpec).at F).post enc Tryz.prog Tryz.f4 false true false false) := by
  obtain ⟨places, hx⟩ := reads os enc
  refine returnsInHanded_of_row (C := Tryz.checked) (s := OpenSpec.ofChange Rows.itemBindsSpec) own started (by kernel_rfl) Tryz.func4
    (witness_row_at (enc := enc) (C := Tryz.checked) false (laidWorld os) #[Pe.zItem, Pe.zItem, .slice none 0 0] rfl (by kernel_rfl) (by kernel_rfl) (by kernel_rfl)
      (OpenSpec.preRow_of_cond 8 hx (by kernel_rfl) (fun k hk => by cases hk) (by kernel_rfl) (laid_met os))) ?_
  intro W base args ds gs before hval hW _ _ hR hL _ _
  exact contract H enc W base args ds gs before hval hW hR hL
theorem said : Rows.ItemBindsSaid :=
  OpenClaim.holds_of_cond 4 Tryz.f4 rfl rfl rfl rfl rfl rfl rfl ⟨rfl, rfl, rfl, rfl, rfl⟩ rfl rfl rfl rfl rfl (by kernel_rfl) Tryz.func4 (by kernel_rfl)
    (of_decide_eq_true (by kernel_rfl)) (by unfold Func.isWrapper; first | (rw [if_pos (by decide +kernel)]; kernel_rfl) | (rw [if_neg (by decide +kernel)]; exact ⟨rfl, rfl⟩))
    (fun os started H enc _ F => by rw [OpenClaim.pre_eq_preRow]; exact lifted os started H enc F)
theorem plain (f : FuncId) (fn : Func) (hf : Tryz.pinned.checked.prog.funcNamed "agora/agoralaw13.ItemBinds" = some f) (hfn : Tryz.pinned.checked.prog.funcs[f]? = some fn) :
    false = Tryz.pinned.checked.prog.looks [] ∧ ∀ (j : Nat) t, fn.params[j]? = some t → Tryz.pinned.checked.prog.wantsStandIn t = false := by
  obtain rfl : f = 4 := Option.some.inj ((show Tryz.prog.funcNamed "agora/agoralaw13.ItemBinds" = some 4 by kernel_rfl).symm.trans hf) |>.symm
  obtain rfl : fn = Tryz.f4 := (Option.some.inj (Tryz.func4.symm.trans hfn)).symm
  refine ⟨by kernel_rfl, fun j t ht => ?_⟩
  rw [Tryz.params4] at ht
  have hm : t ∈ [37, 37, 45] := by simpa using Array.mem_of_getElem? ht
  rcases List.mem_cons.1 hm with rfl | hm
  · exact (show Tryz.prog.wantsStandIn 37 = false by kernel_rfl)
  rcases List.mem_cons.1 hm with rfl | hm
  · exact (show Tryz.prog.wantsStandIn 37 = false by kernel_rfl)
  rcases List.mem_cons.1 hm with rfl | hm
  · exact (show Tryz.prog.wantsStandIn 45 = false by kernel_rfl)
  cases hm
theorem card : Rows.ItemBindsCardSaid :=
  Claim7.holds_tied_plain_at .later [] _ _ _ _ said (fun _ h => by cases h) (by kernel_rfl) (fun _ h => by cases h) itemBinds_row_tie rfl ⟨rfl, rfl⟩ (by kernel_rfl) rfl plain (by kernel_rfl)
end Go.Proofs.YtnjjldhcpiehkaaGreatDoor.itemBinds
