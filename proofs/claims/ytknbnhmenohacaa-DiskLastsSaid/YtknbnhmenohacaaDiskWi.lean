/- The walk of Copy. -/
import Derived.Test.YtknbnhmenohacaaDiskWh
namespace Go.Proofs.Ytknbnhmenohacaa
set_option linter.unusedSectionVars false
set_option linter.unusedVariables false
set_option linter.unusedSimpArgs false
open Go.RowKit Dm
theorem info20 : (Try.prog.info? 53).map (·.size) = some 20 := by kernel_rfl
def cells20 (vs : Nat → Value) (kv : Value) (d : Dk) : List Value := (List.range 20).map (cellD vs kv d)
theorem cells20_length (vs : Nat → Value) (kv : Value) (d : Dk) : (cells20 vs kv d).length = 20 := by simp [cells20]
theorem cells20_at (vs : Nat → Value) (kv : Value) (d : Dk) (j : Nat) (u : Value) (h : (cells20 vs kv d)[j]? = some u) : j < 20 ∧ u = cellD vs kv d j := by
  have hj := (List.getElem?_eq_some_iff.1 h).1
  rw [cells20_length] at hj
  refine ⟨hj, ?_⟩
  unfold cells20 at h
  rw [List.getElem?_map, List.getElem?_range hj] at h
  exact (Option.some.inj h).symm
/-- how far the copy has come: k files are cloned -/
structure Copied (w wr : World) (vs : Nat → Value) (kv : Value) (d : Dk) (k : Nat) (vs' : Nat → Value) : Prop where
  row : wr.rowIs w.heap.size 53 20 (cellD (fun i => if i < k then vs' i else vs i) kv d)
  grown : w.grownBy wr none
  fil : ∀ i, i < k → Fil wr (vs' i) (d.fs i).data
  own : ∀ i b, i < k → bl (vs' i) = some b → w.heap.size < b ∧ b < wr.heap.size
  apart : ∀ i j b, i < k → j < k → i ≠ j → bl (vs' i) = some b → bl (vs' j) ≠ some b
theorem Copied.step {w wr w1 : World} {vs : Nat → Value} {kv : Value} {d : Dk} {k : Nat} {vs' : Nat → Value} (h : Copied w wr vs kv d k vs') (hk : k < 8) {v : Value} (hg : wr.grownBy w1 none) (hf : Fil w1 v (d.fs k).data)
    (hb : ∀ b, bl v = some b → wr.heap.size ≤ b ∧ b < w1.heap.size) :
    (∃ u, w1.cell? ⟨w.heap.size, k * 2, none⟩ = some u) ∧ w1.frozen? ⟨w.heap.size, k * 2, none⟩ = false ∧ Copied w (w1.setCell ⟨w.heap.size, k * 2, none⟩ v) vs kv d (k + 1) (fun i => if i = k then v else vs' i) := by
  have hrl := h.row.lt
  have hr1 := h.row.of_block (hg.block _ hrl (by simp))
  have h0 : w.heap.size < wr.heap.size := hrl
  refine ⟨⟨_, hr1.cell (by omega)⟩, hr1.frozen _, (hr1.set (k * 2) v).congr fun j hj => ?_, ?_, fun i hi => ?_, fun i b hi hbl => ?_, fun i j b hi hj hij hbi hbj => ?_⟩
  · show (if j = k * 2 then _ else _) = _
    by_cases e : j = k * 2
    · subst e
      rw [if_pos rfl, cellD_data _ _ _ _ hk, if_pos (by omega), if_pos rfl]
    · rw [if_neg e]
      unfold cellD
      split
      · split
        · show (if j / 2 < k then vs' (j / 2) else vs (j / 2)) = (if j / 2 < k + 1 then (if j / 2 = k then v else vs' (j / 2)) else vs (j / 2))
          by_cases e1 : j / 2 < k
          · rw [if_pos e1, if_pos (by omega), if_neg (by omega)]
          · rw [if_neg e1, if_neg (by omega)]
        · rfl
      · rfl
  · exact ⟨hg.os.trans h.grown.os, hg.tape.trans h.grown.tape, hg.output.trans h.grown.output, by simpa using Nat.le_trans h.grown.size hg.size, fun b hlt hne => (Below.heap_setCell w1 _ v b (show b ≠ w.heap.size by omega)).trans ((hg.block b (by omega) (by simp)).trans (h.grown.block b hlt hne))⟩
  · by_cases e : i = k
    · subst e
      simp only [if_pos]
      exact hf.keep fun b hbl => Below.heap_setCell w1 _ v b (show b ≠ w.heap.size by have := (hb b hbl).1; omega)
    · simp only [if_neg e]
      have hi' : i < k := by omega
      exact ((h.fil i hi').keep fun b hbl => hg.block b (h.own i b hi' hbl).2 (by simp)).keep fun b hbl => Below.heap_setCell w1 _ v b (show b ≠ w.heap.size by have := (h.own i b hi' hbl).1; omega)
  · by_cases e : i = k
    · subst e
      simp only [if_pos] at hbl
      have := hb b hbl
      exact ⟨by omega, by simpa using this.2⟩
    · simp only [if_neg e] at hbl
      have := h.own i b (by omega) hbl
      have := hg.size
      exact ⟨by omega, by simp; omega⟩
  · by_cases e : i = k
    · subst e
      have e2 : j ≠ i := fun h => hij h.symm
      simp only [if_pos, if_neg e2] at hbi hbj
      have h1 := hb b hbi
      have h2 := h.own j b (by omega) hbj
      omega
    · by_cases e2 : j = k
      · subst e2
        simp only [if_pos, if_neg e] at hbi hbj
        have h1 := hb b hbj
        have h2 := h.own i b (by omega) hbi
        omega
      · simp only [if_neg e, if_neg e2] at hbi hbj
        exact h.apart i j b (by omega) (by omega) hij hbi hbj
section
variable {S : Nat → Prop} {w : World} {g : Nat} {d : Dk}
set_option maxRecDepth 100000 in
set_option maxHeartbeats 2000000 in
theorem copy_any (h : DRep w S g d) (ho : Ok d) (hl : d.keep.length ≤ 1000000) :
    Calls Try.prog 24 #[.pointer (some ⟨g, 0, none⟩)] w fun e w' => ∃ g2, e = .returned (.pointer (some ⟨g2, 0, none⟩)) ∧ DRep w' S g d ∧ DRep w' (fun b => w.heap.size ≤ b) g2 d ∧ w.grownBy w' none := by
  have hD := Veil.mk h
  obtain ⟨vs, kv, hr, h3⟩ := h
  have Hc : Veil (∀ j u, (cells20 vs kv d)[j]? = some u → w.cell? ⟨g, 0 + j, none⟩ = some u) := ⟨fun j u hu => by
    obtain ⟨hj, rfl⟩ := cells20_at _ _ _ _ _ hu
    rw [Nat.zero_add]
    exact hr.cell hj⟩
  have Ho1 : Veil (∀ u ∈ cells20 vs kv d, u.oneCell' = true) := ⟨fun u hu => by
    obtain ⟨j, hj, rfl⟩ := List.mem_map.1 hu
    have hj := List.mem_range.1 hj
    unfold cellD
    split
    · split
      · obtain ⟨A, c, hv, _⟩ := (h3.fil (j / 2) (by omega)).form
        rw [hv]; rfl
      · rfl
    split
    · rfl
    split
    · rfl
    split
    · rfl
    · obtain ⟨A, c, hv, _⟩ := h3.kp
      rw [hv]; rfl⟩
  have HK := Veil.mk h3.kp
  have Hi := Veil.mk (info20.trans (congrArg some (cells20_length vs kv d).symm))
  have Hfit : Veil ((cells20 vs kv d).length = 20) := ⟨cells20_length vs kv d⟩
  have H0 : Veil (Copied w (w.alloc (.cells (cells20 vs kv d).toArray 53)) vs kv d 0 vs) := ⟨⟨by
      have := World.rowIs_alloc w (cells20 vs kv d).toArray 53 (cellD vs kv d) (fun i hi => by
        have hi : i < 20 := by simpa [cells20] using hi
        simp [cells20, List.getElem?_range hi])
      rw [show (cells20 vs kv d).toArray.size = 20 from by simp [cells20]] at this
      exact this.congr fun i _ => by unfold cellD; simp, ⟨rfl, rfl, rfl, by simp, fun b hb _ => heap_alloc_old w _ hb⟩, fun i hi => absurd hi (by omega), fun i b hi => absurd hi (by omega), fun i j b hi => absurd hi (by omega)⟩⟩
  have Hvs := Veil.mk h3.fil
  clear h3 hr
  go_enter Try.func24, Try.ntmps24
  go_wp2_with (first
    | (refine ld_cells rfl _ (.tmp 6) rfl g 0 rfl Try.underlying53 rfl (cells20 vs kv d) Hi.out Hc.out ?_)
    | (refine st_new _ rfl _ (.tmp 3) (.tmp 7) rfl rfl (cells20 vs kv d) rfl Hi.out (by rw [Hfit.out]; rfl) Ho1.out ?_))
  go_loopw [4, 8] (fun _ i wr => ∃ (k : Nat) (vs' : Nat → Value), k ≤ 8 ∧ i = .int .i64 k ∧ Veil (Copied w wr vs kv d k vs')) (fun _ i _ => 8 - (intOf i).toNat)
  case atStart => exact ⟨0, vs, by omega, rfl, H0⟩
  case round =>
    clear H0
    obtain ⟨k, vs', hk, rfl, HC⟩ := hrel
    by_cases hlt : k < 8
    · have hDr : DRep wr S g d := hD.out.keep fun b _ hb => HC.out.grown.block b hb (by simp)
      obtain ⟨A, c, cn, hc, hfil⟩ := hDr.cData k hlt
      have Hfil := Veil.mk hfil; clear hfil
      have hlen := (ho.fs k).len
      have k8 : (k : Int) < 8 := by omega
      clear hDr
      go_wp2_with ((go_at_call 31
                    refine (clone_bytes _ _ _ Hfil.out hlen).mono ?_
                    rintro e w1 ⟨v', rfl, hf, hg, hb⟩
                    obtain ⟨⟨u, cu⟩, fu, hst⟩ := HC.out.step hlt hg hf hb
                    obtain ⟨A', c', hv', hc'⟩ := hf.form
                    subst hv'
                    have Hst := Veil.mk hst
                    clear hst hf hg hb))
      go_roundw
      case rel => exact ⟨k + 1, _, by omega, by go_num, Hst⟩
      case measure => simp [intOf]; omega
    · have hk8 : 8 ≤ k := by omega
      obtain rfl : k = 8 := by omega
      have hDr : DRep wr S g d := hD.out.keep fun b _ hb => HC.out.grown.block b hb (by simp)
      obtain ⟨kv1, c19, hkp, _⟩ := hDr.cKeep
      have HKr := Veil.mk hkp; clear hkp
      have key : Veil (∀ (w1 : World) (kv' : Value), Kp w1 kv' d.keep → wr.grownBy w1 none → (∀ b, bl kv' = some b → wr.heap.size ≤ b ∧ b < w1.heap.size) →
          (∃ u, w1.cell? ⟨w.heap.size, 19, none⟩ = some u) ∧ w1.frozen? ⟨w.heap.size, 19, none⟩ = false ∧ DRep (w1.setCell ⟨w.heap.size, 19, none⟩ kv') S g d ∧ DRep (w1.setCell ⟨w.heap.size, 19, none⟩ kv') (fun b => w.heap.size ≤ b) w.heap.size d ∧ w.grownBy (w1.setCell ⟨w.heap.size, 19, none⟩ kv') none) := ⟨by
        intro w1 kv' hK hg hb
        have hC := HC.out
        have hrl := hC.row.lt
        have hr1 := hC.row.of_block (hg.block _ hrl (by simp))
        have hD1 : DRep w1 S g d := hDr.keep fun b _ hlt => hg.block b hlt (by simp)
        have gw : w.grownBy (w1.setCell ⟨w.heap.size, 19, none⟩ kv') none := ⟨hg.os.trans hC.grown.os, hg.tape.trans hC.grown.tape, hg.output.trans hC.grown.output, by simpa using Nat.le_trans hC.grown.size hg.size, fun b hlt hne => (Below.heap_setCell w1 _ kv' b (show b ≠ w.heap.size by omega)).trans ((hg.block b (by omega) (by simp)).trans (hC.grown.block b hlt hne))⟩
        refine ⟨⟨_, hr1.cell (by omega)⟩, hr1.frozen _, ?_, ?_, gw⟩
        · exact hD.out.keep fun b _ hlt => gw.block b hlt (by simp)
        · refine ⟨vs', kv', (hr1.set 19 kv').congr fun j hj => ?_, Nat.le_refl _, fun i hi => ?_, fun i b hi hbl => ?_, fun i j b hi hj hij hbi hbj => hC.apart i j b hi hj hij hbi hbj, hK.keep fun b hbb => Below.heap_setCell w1 _ kv' b (show b ≠ w.heap.size by have := (hb b hbb).1; omega), fun b hbb => ?_, fun i b hi hbi hbk => ?_, fun b hbb => by simpa using (hb b hbb).2⟩
          · show (if j = 19 then _ else _) = _
            by_cases e : j = 19
            · subst e; rfl
            · rw [if_neg e]
              unfold cellD
              split
              · split
                · exact if_pos (show j / 2 < 8 by omega)
                · rfl
              split
              · rfl
              split
              · rfl
              split
              · rfl
              · omega
          · exact ((hC.fil i hi).keep fun b hbl => hg.block b (hC.own i b hi hbl).2 (by simp)).keep fun b hbl => Below.heap_setCell w1 _ kv' b (show b ≠ w.heap.size by have := (hC.own i b hi hbl).1; omega)
          · have := (hC.own i b hi hbl).1
            exact ⟨by omega, by omega⟩
          · have := (hb b hbb).1
            exact ⟨by omega, by omega⟩
          · have h1 := (hC.own i b hi hbi).2
            have h2 := (hb b hbk).1
            omega⟩
      clear hDr hD
      go_wp2_with ((go_at_call 30
                    refine (clone_int _ _ _ HKr.out hl).mono ?_
                    rintro e w1 ⟨kv', rfl, hK, hg, hb⟩
                    obtain ⟨⟨u, cu⟩, fu, hfin⟩ := key.out w1 kv' hK hg hb
                    obtain ⟨A', c', hv', hc', hr'⟩ := hK
                    subst hv'
                    have Hfin := Veil.mk hfin
                    clear hfin hr' hg hb))
      go_ret
      exact ⟨_, rfl, Hfin.out.1, Hfin.out.2.1, Hfin.out.2.2⟩
end
end Go.Proofs.Ytknbnhmenohacaa
