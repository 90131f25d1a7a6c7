/- agora/agoralaw09.DiskTurns: whatever the input, it answers true and leaves its arguments as they were. The row's statement. -/
import Derived.Test.YtknbnhmenohacaaRows
import Derived.Test.YtknbnhmenohacaaDiskLa
import Derived.Test.YtknbnhmenohacaaPost
import Derived.ProofKit
import Derived.ShutString
import Derived.OpenShut
import Derived.Deep.DeepHandedRow
import Derived.Carry
namespace Go.Proofs.Ytknbnhmenohacaa
open Go Go.RowKit Go.ChangeShapes Go.WideShapes Go.ChangeAt Dm
open Go.ChangeMaps (open_string shut_string)
theorem kp_of_ints {W : World} {a : Addr} {ln cp : Nat} {zs : List Int} (hz : zs.length = cp) (hle : ln ≤ cp) (hcell : ∀ i, i < zs.length → W.cell? (a.add i) = some (.int .i64 (zs.getD i 0))) :
    Kp W (.slice (some a) ln cp) (zs.take ln) ∧ ∀ b, bl (.slice (some a) ln cp) = some b → b < W.heap.size := by
  have hlen : (zs.take ln).length = ln := by rw [List.length_take]; omega
  constructor
  · refine ⟨some a, cp, by rw [hlen], by rw [hlen]; exact hle, fun h0 => ?_⟩
    rw [hlen] at h0
    obtain ⟨b, off, rfl, hc⟩ := Go.ints_at hcell (by omega)
    refine ⟨b, off, rfl, fun j hj => ?_⟩
    rw [hlen] at hj
    rw [hc j (by omega)]
    simp only [List.getD_eq_getElem?_getD, List.getElem?_take_of_lt hj]
  · intro b hb
    rcases Nat.eq_zero_or_pos cp with rfl | hp
    · rw [bl_none] at hb; cases hb
    · obtain ⟨c, rfl⟩ := Nat.exists_eq_succ_of_ne_zero (Nat.ne_of_gt hp)
      have hba : a.block = b := Option.some.inj hb
      have := World.block_lt_of_cell? W _ (hcell 0 (by omega))
      rw [block_add] at this
      omega
theorem own : ownKnob Try.prog.godebug = none := by kernel_rfl
theorem laidOut : laidOutB Try.prog = true := by kernel_rfl
namespace diskTurns
set_option maxRecDepth 100000 in
theorem lifted (os : Os) (started : os.Started) (H : Type) (enc : TypeId × Value → H) :
    ReturnsInHanded {} Try.checked os 3 .any (Rows.diskTurnsSpec.pre6 enc Try.prog Try.f3 Rows.diskTurnsRow.domain false) (Rows.diskTurnsSpec.post enc Try.prog Try.f3 false true false false) := by
  refine returnsInHanded_of_change (C := Try.checked) own started (by kernel_rfl) Try.func3
    (ChangeSpec.witness6 (enc := enc) (C := Try.checked) false ⟨#[], #[.string ⟨#[]⟩, .string ⟨#[]⟩, .int .i64 0, .slice none 0 0], []⟩ 8 (by kernel_rfl) (by kernel_rfl) (by kernel_rfl) (by kernel_rfl)) ?_
  intro W base args ds gs before hval0 hW hcnd _
  have hval : ∀ (j : Nat) t v, Try.f3.params[j]? = some t → args[j]? = some v → Value.okWide Try.prog W .any base t v := hval0
  have hW' := hW
  obtain ⟨p, q, hA0, hV, rfl, hfz, hnd⟩ := hW
  have hA : DataW.TrodAll enc Try.prog W 0 (fun _ => true) true Try.f3.params.toList args.toList ds p := hA0
  rw [Try.params3] at hA hval
  obtain ⟨v0, vs0, d0, ds0, p0, q0, hargs, rfl, rfl, h0, r0⟩ := trodAll_cons hA
  obtain ⟨v1, vs1, d1, ds1, p1, q1, rfl, rfl, rfl, h1, r1⟩ := trodAll_cons r0
  obtain ⟨v2, vs2, d2, ds2, p2, q2, rfl, rfl, rfl, h2, r2⟩ := trodAll_cons r1
  obtain ⟨v3, vs3, d3, ds3, p3, q3, rfl, rfl, rfl, h3, r3⟩ := trodAll_cons r2
  obtain ⟨rfl, rfl, rfl⟩ := trodAll_nil r3
  obtain rfl : args = #[v0, v1, v2, v3] := by cases args; simp_all
  obtain ⟨rfl, rfl⟩ := trodVars_none hV
  obtain ⟨x0, rfl, rfl, rfl, hs0⟩ := Go.ChangeMaps.open_string Try.underlying9 (hval 0 9 v0 rfl rfl) h0
  obtain ⟨x1, rfl, rfl, rfl, hs1⟩ := Go.ChangeMaps.open_string Try.underlying9 (hval 1 9 v1 rfl rfl) h1
  obtain ⟨x2, rfl, rfl, rfl, wx2⟩ := open_int Try.underlying3 (hval 2 3 v2 rfl rfl) h2
  obtain ⟨A, ln, cp, rfl⟩ := okWide_slice Try.underlying22 (hval 3 22 v3 rfl rfl)
  have hlt : ∀ x ∈ p3, x.block < W.heap.size := fun x hx => hW'.lt x (by simp [hx])
  have hK : ∃ ks, Kp W (.slice A ln cp) ks ∧ ∀ b, bl (.slice A ln cp) = some b → b < W.heap.size := by
    obtain ⟨fuel, hf⟩ := h3
    rcases Go.ChangeShapes.open_ints Try.underlying22 Try.underlying3 (by kernel_rfl) hf with ⟨hcs, hx⟩ | ⟨a, len', cap', zs, hcs, hba, hle, hmx, hall, hx, hcell, hwf⟩
    · simp [Value.cells] at hcs
      obtain ⟨rfl, rfl, rfl⟩ := hcs
      exact ⟨[], Kp.nil W, fun b hb => by cases hb⟩
    · simp [Value.cells] at hcs
      obtain ⟨rfl, rfl, rfl⟩ := hcs
      simp only [if_true] at hall
      exact ⟨_, kp_of_ints hall hle hcell⟩
  obtain ⟨ks, hK1, hK2⟩ := hK
  clear hA0 hval0
  simp only [List.append_nil, List.nil_append] at hW'
  refine (Go.Proofs.Ytknbnhmenohacaa.turns_any x0 x1 x2 (.slice A ln cp) ks W hK1 hK2 (by simpa [maxLen] using hs0) (by simpa [maxLen] using hs1)).mono fun e W' ⟨he, hg⟩ => ?_
  subst he
  exact ⟨_, rfl, post_of_below (pa := p3) (pv := []) hW' (fun _ _ _ => trodAll_cons_mk (shut_bool Try.underlying4 _) trodAll_mk0)
    (fun sp hsp => ⟨[], _, shut_string Try.underlying9 hs0, ⟨[], _, shut_string Try.underlying9 hs1, ⟨[], _, shut_int Try.underlying3 wx2, ⟨p3, [], WideElems.Trod_stays (t := 22) laidOut (by kernel_rfl) (by decide +kernel) h3 (fun x hx => hg.same (hlt x hx)) (fun x hx => hsp x (by simpa using hx)), rfl, rfl⟩, rfl⟩, rfl⟩, by simp⟩)
    (fun _ _ => rfl) (by simp) hg (ok_one (by kernel_rfl) rfl (okWide_bool_mk Try.underlying4 _))⟩
theorem said : Rows.DiskTurnsSaid :=
  OpenClaim.holds_of_wide 3 Try.f3 rfl rfl rfl rfl rfl rfl rfl ⟨rfl, rfl, rfl, rfl, rfl⟩ rfl rfl rfl rfl rfl (by kernel_rfl) Try.func3 (by kernel_rfl)
    (of_decide_eq_true (by kernel_rfl)) (by unfold Func.isWrapper; first | (rw [if_pos (by decide +kernel)]; kernel_rfl) | (rw [if_neg (by decide +kernel)]; exact ⟨rfl, rfl⟩))
    (fun os started H enc _ => lifted os started H enc)
end diskTurns
end Go.Proofs.Ytknbnhmenohacaa
