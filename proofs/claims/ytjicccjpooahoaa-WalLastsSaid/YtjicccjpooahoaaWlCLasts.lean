/- agora/agoralaw10.WalLasts: whatever the input, it answers true and leaves its arguments as they were. The row's statement. -/
import Derived.Test.YtjicccjpooahoaaRows
import Derived.Test.YtjicccjpooahoaaWlX
import Derived.Test.YtjicccjpooahoaaPeW5
import Derived.Test.YtjicccjpooahoaaPost
import Derived.ProofKit
import Derived.ShutString
import Derived.OpenShut
import Derived.Deep.DeepHandedRow
import Derived.Carry
import Derived.SizedLaws
set_option linter.unusedSectionVars false
set_option linter.unusedVariables false
set_option linter.unusedSimpArgs false
namespace Go.Proofs.Ytjicccjpooahoaa.walLasts
open Go Go.RowKit Go.ChangeShapes Go.WideShapes Go.ChangeAt
open Go.ChangeMaps (open_string shut_string)
theorem own : ownKnob Try.prog.godebug = none := by kernel_rfl
theorem laidOut : laidOutB Try.prog = true := by kernel_rfl
set_option maxRecDepth 100000 in
theorem lifted (os : Os) (started : os.Started) (H : Type) (enc : TypeId × Value → H) :
  ReturnsInHanded {} Try.checked os 6 .any (Rows.walLastsSpec.pre6 enc Try.prog Try.f6 Rows.walLastsRow.domain false) (Rows.walLastsSpec.post enc Try.prog Try.f6 false true false false) := by
 refine returnsInHanded_of_change_sized (C := Try.checked) own started (by kernel_rfl) Try.func6
  (ChangeSpec.witness6 (enc := enc) (C := Try.checked) false ⟨#[], #[.slice none 0 0, .slice none 0 0], []⟩ 8 (by kernel_rfl) (by kernel_rfl) (by kernel_rfl) (by kernel_rfl)) ?_
 intro W base args ds gs before hval0 hW hcnd hR _
 have hval : ∀ (j : Nat) t v, Try.f6.params[j]? = some t → args[j]? = some v → Value.okWide Try.prog W .any base t v := hval0
 have hR : (DataW.weightsEach Try.prog (Try.f6.params.toList ++ []) (ds ++ gs)).all (· ≤ reachBytes) = true := hR
 have hW' := hW
 obtain ⟨p, q, hA0, hV, rfl, hfz, hnd⟩ := hW
 have hA : DataW.TrodAll enc Try.prog W 0 (fun _ => true) true Try.f6.params.toList args.toList ds p := hA0
 rw [Try.params6] at hA hval hR
 obtain ⟨v0, vs0, d0, ds0, p0, q0, hargs, rfl, rfl, h0, r0⟩ := trodAll_cons hA
 obtain ⟨v1, vs1, d1, ds1, p1, q1, rfl, rfl, rfl, h1, r1⟩ := trodAll_cons r0
 obtain ⟨rfl, rfl, rfl⟩ := trodAll_nil r1
 obtain rfl : args = #[v0, v1] := by cases args; simp_all
 obtain ⟨rfl, rfl⟩ := trodVars_none hV
 obtain ⟨A0, ln0, cp0, rfl⟩ := okWide_slice Try.underlying47 (hval 0 47 v0 rfl rfl)
 obtain ⟨us0, hs0, hr0⟩ := Pe.open_cell (B := 140737488351232) (n := 8) (by kernel_rfl) rfl h0 (Pe.weights_of hR (j := 0) rfl rfl)
 obtain ⟨x0, rfl, hx0⟩ := Pe.shp_wacts hs0
 have hr0 := hr0 _ rfl
 obtain ⟨A1, ln1, cp1, rfl⟩ := okWide_slice Try.underlying48 (hval 1 48 v1 rfl rfl)
 obtain ⟨us1, hs1, hr1⟩ := Pe.open_cell (B := 140737488351232) (n := 8) (by kernel_rfl) rfl h1 (Pe.weights_of hR (j := 1) rfl rfl)
 obtain ⟨x1, rfl, hx1⟩ := Pe.shp_ints hs1
 have hr1 := hr1 _ rfl
 clear hA0 hval0
 simp only [List.append_nil] at hW' hR
 have hlt : ∀ x ∈ (p0 ++ (p1 ++ [])), x.block < W.heap.size := fun x hx => hW'.lt x (by simpa using hx)
 letI : Pe.Tab := ⟨fun _ _ => none⟩
 refine (Pe.law_run (Pe.lasts10_c x0 x1 hx0.1 hx0.2 hx1) (fun _ _ _ h => by cases h) (Pe.lrelL (hr0) (Pe.lrelL (hr1) (Pe.lrel0)))).mono fun e W' ⟨he, hg⟩ => ?_
 subst he
 exact ⟨_, rfl, post_of_below (pa := (p0 ++ (p1 ++ []))) (pv := []) hW' (fun _ _ _ => trodAll_cons_mk (shut_bool Try.underlying4 _) trodAll_mk0) (fun sp hsp => ⟨p0, (p1 ++ []), WideElems.Trod_stays (t := 47) laidOut (by kernel_rfl) (by decide +kernel) h0 (fun x hx => hg.same (hlt x (by simp [hx]))) (fun x hx => hsp x (by simp [hx])), ⟨p1, [], WideElems.Trod_stays (t := 48) laidOut (by kernel_rfl) (by decide +kernel) h1 (fun x hx => hg.same (hlt x (by simp [hx]))) (fun x hx => hsp x (by simp [hx])), rfl, rfl⟩, rfl⟩) (fun _ _ => rfl) (by simp)
  hg (ok_one (by kernel_rfl) rfl (okWide_bool_mk Try.underlying4 _))⟩
theorem said : Rows.WalLastsSaid :=
 OpenClaim.holds_of_wide 6 Try.f6 rfl rfl rfl rfl rfl rfl rfl ⟨rfl, rfl, rfl, rfl, rfl⟩ rfl rfl rfl rfl rfl (by kernel_rfl) Try.func6 (by kernel_rfl)
  (of_decide_eq_true (by kernel_rfl)) (by unfold Func.isWrapper; first | (rw [if_pos (by decide +kernel)]; kernel_rfl) | (rw [if_neg (by decide +kernel)]; exact ⟨rfl, rfl⟩))
  (fun os started H enc _ => lifted os started H enc)
end Go.Proofs.Ytjicccjpooahoaa.walLasts
