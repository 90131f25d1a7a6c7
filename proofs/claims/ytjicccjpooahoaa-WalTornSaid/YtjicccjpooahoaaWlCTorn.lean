/- agora/agoralaw10.WalTorn: whatever the input, it answers true and leaves its arguments as they were. The row's statement. -/
import Derived.Test.YtjicccjpooahoaaRows
import Derived.Test.YtjicccjpooahoaaWlJ
import Derived.Test.YtjicccjpooahoaaPeW5
import Derived.Test.YtjicccjpooahoaaWlV
import Derived.Test.YtjicccjpooahoaaPost
import Derived.ProofKit
import Derived.ShutString
import Derived.OpenShut
import Derived.Deep.DeepHandedRow
import Derived.Carry
import Derived.SizedLaws
set_option linter.unusedSectionVars false
set_option linter.unusedVariables false
set_option linter.unusedSimpArgs false
namespace Go.Proofs.Ytjicccjpooahoaa.walTorn
open Go Go.RowKit Go.ChangeShapes Go.WideShapes Go.ChangeAt
open Go.ChangeMaps (open_string shut_string)
theorem own : ownKnob Try.prog.godebug = none := by kernel_rfl
theorem laidOut : laidOutB Try.prog = true := by kernel_rfl
set_option maxRecDepth 100000 in
theorem lifted (os : Os) (started : os.Started) (H : Type) (enc : TypeId × Value → H) :
  ReturnsInHanded {} Try.checked os 3 .any (Rows.walTornSpec.pre6 enc Try.prog Try.f3 Rows.walTornRow.domain false) (Rows.walTornSpec.post enc Try.prog Try.f3 false true false false) := by
 refine returnsInHanded_of_change_sized (C := Try.checked) own started (by kernel_rfl) Try.func3
  (ChangeSpec.witness6 (enc := enc) (C := Try.checked) false ⟨#[], #[.slice none 0 0, .int .i64 0, .string ⟨#[]⟩], []⟩ 8 (by kernel_rfl) (by kernel_rfl) (by kernel_rfl) (by kernel_rfl)) ?_
 intro W base args ds gs before hval0 hW hcnd hR _
 have hval : ∀ (j : Nat) t v, Try.f3.params[j]? = some t → args[j]? = some v → Value.okWide Try.prog W .any base t v := hval0
 have hR : (DataW.weightsEach Try.prog (Try.f3.params.toList ++ []) (ds ++ gs)).all (· ≤ reachBytes) = true := hR
 have hW' := hW
 obtain ⟨p, q, hA0, hV, rfl, hfz, hnd⟩ := hW
 have hA : DataW.TrodAll enc Try.prog W 0 (fun _ => true) true Try.f3.params.toList args.toList ds p := hA0
 rw [Try.params3] at hA hval hR
 obtain ⟨v0, vs0, d0, ds0, p0, q0, hargs, rfl, rfl, h0, r0⟩ := trodAll_cons hA
 obtain ⟨v1, vs1, d1, ds1, p1, q1, rfl, rfl, rfl, h1, r1⟩ := trodAll_cons r0
 obtain ⟨v2, vs2, d2, ds2, p2, q2, rfl, rfl, rfl, h2, r2⟩ := trodAll_cons r1
 obtain ⟨rfl, rfl, rfl⟩ := trodAll_nil r2
 obtain rfl : args = #[v0, v1, v2] := by cases args; simp_all
 obtain ⟨rfl, rfl⟩ := trodVars_none hV
 obtain ⟨A0, ln0, cp0, rfl⟩ := okWide_slice Try.underlying22 (hval 0 22 v0 rfl rfl)
 obtain ⟨us0, hs0, hr0⟩ := Pe.open_cell (B := 140737488351232) (n := 8) (by kernel_rfl) rfl h0 (Pe.weights_of hR (j := 0) rfl rfl)
 obtain ⟨x0, rfl, hx0⟩ := Pe.shp_strs hs0
 have hr0 := hr0 _ rfl
 obtain ⟨x1, rfl, rfl, rfl, wf1⟩ := open_int Try.underlying3 (hval 1 3 v1 rfl rfl) h1
 have wx1 := bounds_i64 wf1
 obtain ⟨x2, rfl, rfl, rfl, hs2⟩ := open_string Try.underlying9 (hval 2 9 v2 rfl rfl) h2
 have rs2 : x2.data.toList.length ≤ 140737488351232 := by simpa [reachBytes] using sized_string hR (j := 2) rfl rfl
 clear hA0 hval0
 simp only [List.append_nil] at hW' hR
 have hlt : ∀ x ∈ (p0 ++ ([] ++ ([] ++ []))), x.block < W.heap.size := fun x hx => hW'.lt x (by simpa using hx)
 letI : Pe.Tab := ⟨fun _ _ => none⟩
 refine (Pe.law_run (Pe.torn_c x0 x1 x2.data.toList hx0.1 (by omega) wx1.2) (fun _ _ _ h => by cases h) (Pe.lrelL (hr0) (Pe.lrelL (.it _ _ _) (Pe.lrelL (Pe.rel_string _ _ x2) (Pe.lrel0))))).mono fun e W' ⟨he, hg⟩ => ?_
 subst he
 exact ⟨_, rfl, post_of_below (pa := (p0 ++ ([] ++ ([] ++ [])))) (pv := []) hW' (fun _ _ _ => trodAll_cons_mk (shut_bool Try.underlying4 _) trodAll_mk0) (fun sp hsp => ⟨p0, ([] ++ ([] ++ [])), WideElems.Trod_stays (t := 22) laidOut (by kernel_rfl) (by decide +kernel) h0 (fun x hx => hg.same (hlt x (by simp [hx]))) (fun x hx => hsp x (by simp [hx])), ⟨[], ([] ++ []), shut_int Try.underlying3 wf1, ⟨[], [], shut_string Try.underlying9 hs2, rfl, rfl⟩, rfl⟩, rfl⟩) (fun _ _ => rfl) (by simp)
  hg (ok_one (by kernel_rfl) rfl (okWide_bool_mk Try.underlying4 _))⟩
theorem said : Rows.WalTornSaid :=
 OpenClaim.holds_of_wide 3 Try.f3 rfl rfl rfl rfl rfl rfl rfl ⟨rfl, rfl, rfl, rfl, rfl⟩ rfl rfl rfl rfl rfl (by kernel_rfl) Try.func3 (by kernel_rfl)
  (of_decide_eq_true (by kernel_rfl)) (by unfold Func.isWrapper; first | (rw [if_pos (by decide +kernel)]; kernel_rfl) | (rw [if_neg (by decide +kernel)]; exact ⟨rfl, rfl⟩))
  (fun os started H enc _ => lifted os started H enc)
end Go.Proofs.Ytjicccjpooahoaa.walTorn
