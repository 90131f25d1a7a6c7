/- agora/agoralaw09.DiskArms: whatever the input, it answers true and leaves its arguments as they were. The row's statement. -/
import Derived.Test.YtknbnhmenohacaaRows
import Derived.Test.YtknbnhmenohacaaDiskLe
import Derived.Test.YtknbnhmenohacaaPost
import Derived.ProofKit
import Derived.ShutString
import Derived.OpenShut
import Derived.Deep.DeepHandedRow
import Derived.Deep.Strs
import Derived.Carry
import Derived.SizedLaws
namespace Go.Proofs.Ytknbnhmenohacaa
open Go Go.RowKit Go.ChangeShapes Go.WideShapes Go.ChangeAt Dm
theorem sp_of_strs {W : World} {a : Addr} {ln cp m : Nat} {Sx : Nat → ByteArray} (hm : ln ≤ m) (hle : ln ≤ cp) (hcell : ∀ i, i < m → W.cell? (a.add i) = some (.string (Sx i))) :
    Sp W (.slice (some a) ln cp) ((List.range ln).map Sx) := by
  have hlen : ((List.range ln).map Sx).length = ln := by simp
  refine ⟨some a, cp, by rw [hlen], by rw [hlen]; exact hle, fun h0 => ?_⟩
  rw [hlen] at h0
  obtain ⟨b, off, spot⟩ := a
  have hspot : spot = none := by simpa [Addr.add] using World.cell?_spot (hcell 0 (by omega))
  subst hspot
  have hc := hcell 0 (by omega)
  refine ⟨b, off, rfl, ?_, fun j hj => ?_⟩
  · have := World.block_lt_of_cell? W _ hc
    rw [block_add] at this
    exact this
  · rw [hlen] at hj
    have := hcell j (by omega)
    rw [Addr.add_lit] at this
    rw [this, List.getD_eq_getElem?_getD, List.getElem?_map, List.getElem?_range hj]
    rfl
theorem weightsAll_mem {H : Type} {P : Program} {e : TypeId} {l : List (DataW H)} {d : DataW H} {n : Nat} (hd : d ∈ l) (hn : n ∈ d.weights P e) : n ∈ DataW.weightsAll P e l := by
  induction l with
  | nil => cases hd
  | cons a l ih =>
    rw [DataW.weightsAll]
    rcases List.mem_cons.1 hd with rfl | h
    · exact List.mem_append_left _ hn
    · exact List.mem_append_right _ (ih h)
namespace diskArms
theorem own : ownKnob Try.prog.godebug = none := by kernel_rfl
theorem laidOut : laidOutB Try.prog = true := by kernel_rfl
set_option maxRecDepth 100000 in
theorem lifted (os : Os) (started : os.Started) (H : Type) (enc : TypeId × Value → H) :
    ReturnsInHanded {} Try.checked os 5 .any (Rows.diskArmsSpec.pre6 enc Try.prog Try.f5 Rows.diskArmsRow.domain false) (Rows.diskArmsSpec.post enc Try.prog Try.f5 false true false false) := by
  refine returnsInHanded_of_change_sized (C := Try.checked) own started (by kernel_rfl) Try.func5
    (ChangeSpec.witness6 (enc := enc) (C := Try.checked) false ⟨#[], #[.slice none 0 0, .int .i64 0, .int .i64 0], []⟩ 8 (by kernel_rfl) (by kernel_rfl) (by kernel_rfl) (by kernel_rfl)) ?_
  intro W base args ds gs before hval0 hW hcnd hR _
  have hval : ∀ (j : Nat) t v, Try.f5.params[j]? = some t → args[j]? = some v → Value.okWide Try.prog W .any base t v := hval0
  have hW' := hW
  obtain ⟨p, q, hA0, hV, rfl, hfz, hnd⟩ := hW
  have hA : DataW.TrodAll enc Try.prog W 0 (fun _ => true) true Try.f5.params.toList args.toList ds p := hA0
  have hR : (DataW.weightsEach Try.prog (Try.f5.params.toList ++ []) (ds ++ gs)).all (· ≤ reachBytes) = true := hR
  rw [Try.params5] at hA hval hR
  obtain ⟨v0, vs0, d0, ds0, p0, q0, hargs, rfl, rfl, h0, r0⟩ := trodAll_cons hA
  obtain ⟨v1, vs1, d1, ds1, p1, q1, rfl, rfl, rfl, h1, r1⟩ := trodAll_cons r0
  obtain ⟨v2, vs2, d2, ds2, p2, q2, rfl, rfl, rfl, h2, r2⟩ := trodAll_cons r1
  obtain ⟨rfl, rfl, rfl⟩ := trodAll_nil r2
  obtain rfl : args = #[v0, v1, v2] := by cases args; simp_all
  obtain ⟨rfl, rfl⟩ := trodVars_none hV
  obtain ⟨x1, rfl, rfl, rfl, wx1⟩ := open_int Try.underlying3 (hval 1 3 v1 rfl rfl) h1
  obtain ⟨x2, rfl, rfl, rfl, wx2⟩ := open_int Try.underlying3 (hval 2 3 v2 rfl rfl) h2
  obtain ⟨A, ln, cp, rfl⟩ := okWide_slice Try.underlying37 (hval 0 37 v0 rfl rfl)
  have hlt : ∀ x ∈ p0, x.block < W.heap.size := fun x hx => hW'.lt x (by simp [hx])
  have hK : ∃ xs, Sp W (.slice A ln cp) xs ∧ (∀ x ∈ xs, x.size ≤ 140737488355328) ∧ xs.length ≤ 9223372036854775807 := by
    obtain ⟨fuel, hf⟩ := id h0
    rcases Go.Deep.open_strs Try.underlying37 Try.underlying9 (by kernel_rfl) hf with ⟨hcs, hx⟩ | ⟨a, len', cap', m, Sx, hcs, hba, hle, hmx, hall, hx, hcell⟩
    · simp [Value.cells] at hcs
      obtain ⟨rfl, rfl, rfl⟩ := hcs
      exact ⟨[], ⟨none, 0, rfl, Nat.le_refl _, fun h => absurd h (by simp)⟩, fun x hx => by simp at hx, by simp⟩
    · simp [Value.cells] at hcs
      obtain ⟨rfl, rfl, rfl⟩ := hcs
      simp only [if_true] at hall
      refine ⟨_, sp_of_strs (by omega) hle (fun i hi => (hcell i hi).1), fun x hx' => ?_, ?_⟩
      · obtain ⟨i, hi, rfl⟩ := List.mem_map.1 hx'
        have hd0 : d0 = _ := congrArg Prod.fst hx
        have hmem : (Sx i).data.toList.length ∈ d0.weights Try.prog 37 := by
          rw [hd0]
          simp only [DataW.weights, Try.underlying37]
          exact List.mem_cons_of_mem _ (List.mem_append_left _ (weightsAll_mem (List.mem_map.2 ⟨i, hi, rfl⟩) (by simp [DataW.weights])))
        have hb := List.all_eq_true.1 hR _ (DataW.weights_mem_each (j := 0) rfl rfl _ hmem)
        have hb : (Sx i).data.toList.length ≤ reachBytes := by simpa using hb
        have hb2 : reachBytes = 140737488351232 := rfl
        have hb3 : (Sx i).data.toList.length = (Sx i).size := by simp
        omega
      · simp only [List.length_map, List.length_range]
        unfold maxLen at hmx
        omega
  obtain ⟨xs, hK1, hK2, hK3⟩ := hK
  clear hA0 hval0
  simp only [List.append_nil, List.nil_append] at hW'
  refine (Go.Proofs.Ytknbnhmenohacaa.arms_any (.slice A ln cp) xs x1 x2 W hK1 hK2 hK3 (by have := bounds_i64 wx1; omega)).mono fun e W' ⟨he, hg⟩ => ?_
  subst he
  exact ⟨_, rfl, post_of_below (pa := p0) (pv := []) hW' (fun _ _ _ => trodAll_cons_mk (shut_bool Try.underlying4 _) trodAll_mk0)
    (fun sp hsp => ⟨p0, [], WideElems.Trod_stays (t := 37) laidOut (by kernel_rfl) (by decide +kernel) h0 (fun x hx => hg.same (hlt x hx)) (fun x hx => hsp x (by simpa using hx)), ⟨[], [], shut_int Try.underlying3 wx1, ⟨[], [], shut_int Try.underlying3 wx2, rfl, rfl⟩, rfl⟩, by simp⟩)
    (fun _ _ => rfl) (by simp) hg (ok_one (by kernel_rfl) rfl (okWide_bool_mk Try.underlying4 _))⟩
theorem said : Rows.DiskArmsSaid :=
  OpenClaim.holds_of_wide 5 Try.f5 rfl rfl rfl rfl rfl rfl rfl ⟨rfl, rfl, rfl, rfl, rfl⟩ rfl rfl rfl rfl rfl (by kernel_rfl) Try.func5 (by kernel_rfl)
    (of_decide_eq_true (by kernel_rfl)) (by unfold Func.isWrapper; first | (rw [if_pos (by decide +kernel)]; kernel_rfl) | (rw [if_neg (by decide +kernel)]; exact ⟨rfl, rfl⟩))
    (fun os started H enc _ => lifted os started H enc)
end diskArms
end Go.Proofs.Ytknbnhmenohacaa
