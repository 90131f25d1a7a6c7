/- The walk of Copy. -/
import Derived.Test.YtjicccjpooahoaaDiskWh
namespace Go.Proofs.Ytjicccjpooahoaa
set_option linter.unusedSectionVars false
set_option linter.unusedVariables false
set_option linter.unusedSimpArgs false
open Go.RowKit Dm
theorem info20 : (Try.prog.info? 63).map (·.size) = some 20 := by kernel_rfl
def cells20 (vs : Nat → Value) (kv : Value) (d : Dk) : List Value := (List.range 20).map (cellD vs kv d)
theorem cells20_length (vs : Nat → Value) (kv : Value) (d : Dk) : (cells20 vs kv d).length = 20 := by simp [cells20]
theorem cells20_at (vs : Nat → Value) (kv : Value) (d : Dk) (j : Nat) (u : Value) (h : (cells20 vs kv d)[j]? = some u) : j < 20 ∧ u = cellD vs kv d j := by
  have hj := (List.getElem?_eq_some_iff.1 h).1
  rw [cells20_length] at hj
  refine ⟨hj, ?_⟩
  unfold cells20 at h
  rw [List.getElem?_map, List.getElem?_range hj] at h
  exact (Option.some.inj h).symm
/-- how far the copy has come: k files are cloned -/
structure Copied (w wr : World) (vs : Nat → Value) (kv : Value) (d : Dk) (k : Nat) (vs' : Nat → Value) : Prop where
  row : wr.rowIs w.heap.size 63 20 (cellD (fun i => if i < k then vs' i else vs i) kv d)
  grown : w.grownBy wr none
  fil : ∀ i, i < k → Fil wr (vs' i) (d.fs i).data
  own : ∀ i b, i < k → bl (vs' i) = some b → w.heap.size < b ∧ b < wr.heap.size
  apart : ∀ i j b, i < k → j < k → i ≠ j → bl (vs' i) = some b → bl (vs' j) ≠ some b
theorem Copied.step {w wr w1 : World} {vs : Nat → Value} {kv : Value} {d : Dk} {k : Nat} {vs' : Nat → Value} (h : Copied w wr vs kv d k vs') (hk : k < 8) {v : Value} (hg : wr.grownBy w1 none) (hf : Fil w1 v (d.fs k).data)
    (hb : ∀ b, bl v = some b → wr.heap.size ≤ b ∧ b < w1.heap.size) :
    (∃ u, w1.cell? ⟨w.heap.size, k * 2, none⟩ = some u) ∧ w1.frozen? ⟨w.heap.size, k * 2, none⟩ = false ∧ Copied w (w1.setCell ⟨w.heap.size, k * 2, none⟩ v) vs kv d (k + 1) (fun i => if i = k then v else vs' i) := by
  have hrl := h.row.lt
  have hr1 := h.row.of_block (hg.block _ hrl (by simp))
  have h0 : w.heap.size < wr.heap.size := hrl
  refine ⟨⟨_, hr1.cell (by omega)⟩, hr1.frozen _, (hr1.set (k * 2) v).congr fun j hj => ?_, ?_, fun i hi => ?_, fun i b hi hbl => ?_, fun i j b hi hj hij hbi hbj => ?_⟩
  · show (if j = k * 2 then _ else _) = _
    by_cases e : j = k * 2
    · subst e
      rw [if_pos rfl, cellD_data _ _ _ _ hk, if_pos (by omega), if_pos rfl]
    · rw [if_neg e]
      unfold cellD
      split
      · split
        · show (if j / 2 < k then vs' (j / 2) else vs (j / 2)) = (if j / 2 < k + 1 then (if j / 2 = k then v else vs' (j / 2)) else vs (j / 2))
          by_cases e1 : j / 2 < k
          · rw [if_pos e1, if_pos (by omega), if_neg (by omega)]
          · rw [if_neg e1, if_neg (by omega)]
        · rfl
      · rfl
  · exact ⟨hg.os.trans h.grown.os, hg.tape.trans h.grown.tape, hg.output.trans h.grown.output, by simpa using Nat.le_trans h.grown.size hg.size, fun b hlt hne => (Below.heap_setCell w1 _ v b (show b ≠ w.heap.size by omega)).trans ((hg.block b (by omega) (by simp)).trans (h.grown.block b hlt hne))⟩
  · by_cases e : i = k
    · subst e
      simp only [if_pos]
      exact hf.keep fun b hbl => Below.heap_setCell w1 _ v b (show b ≠ w.heap.size by have := (hb b hbl).1; omega)
    · simp only [if_neg e]
      have hi' : i < k := by omega
      exact ((h.fil i hi').keep fun b hbl => hg.block b (h.own i b hi' hbl).2 (by simp)).keep fun b hbl => Below.heap_setCell w1 _ v b (show b ≠ w.heap.size by have := (h.own i b hi' hbl).1; omega)
  · by_cases e : i = k
    · subst e
      simp only [if_pos] at hbl
      have := hb b hbl
      exact ⟨by omega, by simpa using this.2⟩
    · simp only [if_neg e] at hbl
      have := h.own i b (by omega) hbl
      have := hg.size
      exact ⟨by omega, by simp; omega⟩
  · by_cases e : i = k
    · subst e
      have e2 : j ≠ i := fun h => hij h.symm
      simp only [if_pos, if_neg e2] at hbi hbj
      have h1 := hb b hbi
      have h2 := h.own j b (by omega) hbj
      omega
    · by_cases e2 : j = k
      · subst e2
        simp only [if_pos, if_neg e] at hbi hbj
        have h1 := hb b hbj
        have h2 := h.own i b (by omega) hbi
        omega
      · simp only [if_neg e, if_neg e2] at hbi hbj
        exact h.apart i j b (by omega) (by omega) hij hbi hbj
section
variable {S : Nat → Prop} {w : World} {g : Nat} {d : Dk}
end
end Go.Proofs.Ytjicccjpooahoaa
