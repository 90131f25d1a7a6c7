/- A disk in memory: what a store into its block makes of it. -/
import Derived.Test.YtjicccjpooahoaaDiskR
namespace Go.Proofs.Ytjicccjpooahoaa
set_option linter.unusedSectionVars false
set_option linter.unusedVariables false
set_option linter.unusedSimpArgs false
open Go Go.RowKit Dm
section
variable {S : Nat → Prop} {w : World} {g : Nat} {d : Dk} {vs : Nat → Value} {kv : Value}
theorem Rows3.head' (h : Rows3 w S g vs kv d) (o : Nat) (u : Value) : Rows3 (w.setCell ⟨g, o, none⟩ u) S g vs kv d :=
  ⟨h.head, fun i hi => (h.fil i hi).keep fun b hb => Below.heap_setCell w _ u b (h.own i b hi hb).2, h.own, h.apart, h.kp.keep fun b hb => Below.heap_setCell w _ u b (h.kown b hb).2, h.kown, h.kapart, fun b hb => by simpa using h.klt b hb⟩
theorem DRep.setDown (h : DRep w S g d) (b : Bool) : DRep (w.setCell ⟨g, 16, none⟩ (.bool b)) S g { d with down := b } := by
  obtain ⟨vs, kv, hr, h⟩ := h
  refine ⟨vs, kv, (hr.set 16 (.bool b)).congr fun j hj => ?_, ?_⟩
  · show (if j = 16 then _ else _) = _
    by_cases h : j = 16
    · subst h; rfl
    · rw [if_neg h]; unfold cellD; simp only [if_neg h]
  · have h := h.head' 16 (.bool b)
    exact ⟨h.head, h.fil, h.own, h.apart, h.kp, h.kown, h.kapart, h.klt⟩
theorem DRep.setLost (h : DRep w S g d) (n : Nat) : DRep (w.setCell ⟨g, 17, none⟩ (.int .i64 (n : Int))) S g { d with lost := n } := by
  obtain ⟨vs, kv, hr, h⟩ := h
  refine ⟨vs, kv, (hr.set 17 (.int .i64 (n : Int))).congr fun j hj => ?_, ?_⟩
  · show (if j = 17 then _ else _) = _
    by_cases h : j = 17
    · subst h; rfl
    · rw [if_neg h]; unfold cellD; simp only [if_neg h]
  · have h := h.head' 17 (.int .i64 (n : Int))
    exact ⟨h.head, h.fil, h.own, h.apart, h.kp, h.kown, h.kapart, h.klt⟩
theorem DRep.setArmed (h : DRep w S g d) (n : Nat) : DRep (w.setCell ⟨g, 18, none⟩ (.int .i64 (n : Int))) S g { d with armed := n } := by
  obtain ⟨vs, kv, hr, h⟩ := h
  refine ⟨vs, kv, (hr.set 18 (.int .i64 (n : Int))).congr fun j hj => ?_, ?_⟩
  · show (if j = 18 then _ else _) = _
    by_cases h : j = 18
    · subst h; rfl
    · rw [if_neg h]; unfold cellD; simp only [if_neg h]
  · have h := h.head' 18 (.int .i64 (n : Int))
    exact ⟨h.head, h.fil, h.own, h.apart, h.kp, h.kown, h.kapart, h.klt⟩
/-- a new row of kept lengths: nil, or in a block of its own -/
theorem DRep.setKeep (h : DRep w S g d) {kv' : Value} {ks : List Int} (hk : Kp w kv' ks) (hlt : ∀ b, bl kv' = some b → b < w.heap.size) (hb : ∀ b, bl kv' = some b → S b ∧ b ≠ g ∧ ∀ vs kv, Rows3 w S g vs kv d → ∀ i, i < 8 → bl (vs i) ≠ some b) : DRep (w.setCell ⟨g, 19, none⟩ kv') S g { d with keep := ks } := by
  obtain ⟨vs, kv, hr, h⟩ := h
  refine ⟨vs, kv', (hr.set 19 kv').congr fun j hj => ?_, ?_⟩
  · show (if j = 19 then _ else _) = _
    by_cases h : j = 19
    · subst h; rfl
    · rw [if_neg h]
      unfold cellD
      split
      · rfl
      split
      · rfl
      split
      · rfl
      split
      · rfl
      · omega
  · have h' := h.head' 19 kv'
    exact ⟨h'.head, h'.fil, h'.own, h'.apart, hk.keep fun b hbb => Below.heap_setCell w _ kv' b (hb b hbb).2.1, fun b hbb => ⟨(hb b hbb).1, (hb b hbb).2.1⟩, fun i b hi hv hkv => (hb b hkv).2.2 vs kv h i hi hv, fun b hbb => by simpa using hlt b hbb⟩
theorem DRep.setKeepNil (h : DRep w S g d) : DRep (w.setCell ⟨g, 19, none⟩ (.slice none 0 0)) S g { d with keep := [] } :=
  h.setKeep (Kp.nil w) (fun b hb => by cases hb) fun b hb => by cases hb
/-- the durable length of file i -/
theorem DRep.setDur (h : DRep w S g d) (i : Nat) (hi : i < 8) (n : Nat) : DRep (w.setCell ⟨g, i * 2 + 1, none⟩ (.int .i64 (n : Int))) S g { d with fs := upd d.fs i ⟨(d.fs i).data, n⟩ } := by
  obtain ⟨vs, kv, hr, h⟩ := h
  refine ⟨vs, kv, (hr.set (i * 2 + 1) (.int .i64 (n : Int))).congr fun j hj => ?_, ?_⟩
  · show (if j = i * 2 + 1 then _ else _) = _
    by_cases h : j = i * 2 + 1
    · subst h
      rw [if_pos rfl, cellD_dur _ _ _ _ hi]
      simp only [upd_same]
    · rw [if_neg h]
      unfold cellD
      split
      · split
        · rfl
        · have : j / 2 ≠ i := by omega
          simp only [upd_ne _ this]
      · rfl
  · have h := h.head' (i * 2 + 1) (.int .i64 (n : Int))
    refine ⟨h.head, fun k hk => ?_, h.own, h.apart, h.kp, h.kown, h.kapart, h.klt⟩
    have := h.fil k hk
    by_cases e : k = i
    · subst e; simp only [upd_same]; exact this
    · simp only [upd_ne _ e]; exact this
/-- the row of file i, which alone may have changed since the world w0 -/
theorem DRep.setData2 {w0 : World} (hr : w.rowIs g 63 20 (cellD vs kv d)) (h : Rows3 w0 S g vs kv d) (i : Nat) (hi : i < 8) (hfo : ∀ k, k < 8 → k ≠ i → Fil w (vs k) (d.fs k).data) (hkp : Kp w kv d.keep) (hklt : ∀ b, bl kv = some b → b < w.heap.size) {v : Value} {l : List UInt8} (hf : Fil w v l)
    (hv : ∀ b, bl v = some b → bl (vs i) = some b ∨ (S b ∧ b ≠ g ∧ (∀ j, j < 8 → bl (vs j) ≠ some b) ∧ bl kv ≠ some b)) : DRep (w.setCell ⟨g, i * 2, none⟩ v) S g { d with fs := upd d.fs i ⟨l, (d.fs i).dur⟩ } := by
  refine ⟨fun k => if k = i then v else vs k, kv, (hr.set (i * 2) v).congr fun j hj => ?_, ?_⟩
  · show (if j = i * 2 then _ else _) = _
    by_cases e : j = i * 2
    · subst e
      rw [if_pos rfl, cellD_data _ _ _ _ hi, if_pos rfl]
    · rw [if_neg e]
      unfold cellD
      split
      · split
        · exact (if_neg (show j / 2 ≠ i from by omega)).symm
        · by_cases e2 : j / 2 = i
          · rw [e2]; simp only [upd_same]
          · simp only [upd_ne _ e2]
      · rfl
  · have hvg : ∀ b, bl v = some b → b ≠ g := fun b hb => by
      rcases hv b hb with h1 | h1
      · exact (h.own i b hi h1).2
      · exact h1.2.1
    refine ⟨h.head, fun k hk => ?_, fun k b hk hb => ?_, fun j k b hj hk hjk hb hb' => ?_, hkp.keep fun b hb => Below.heap_setCell w _ v b (h.kown b hb).2, h.kown, fun k b hk hb hkb => ?_, fun b hb => by simpa using hklt b hb⟩
    · by_cases e : k = i
      · subst e
        simp only [if_pos, upd_same]
        exact hf.keep fun b hb => Below.heap_setCell w _ v b (hvg b hb)
      · simp only [if_neg e, upd_ne _ e]
        exact (hfo k hk e).keep fun b hb => Below.heap_setCell w _ v b (h.own k b hk hb).2
    · by_cases e : k = i
      · subst e
        simp only [if_pos] at hb
        rcases hv b hb with h1 | h1
        · exact h.own k b hk h1
        · exact ⟨h1.1, h1.2.1⟩
      · simp only [if_neg e] at hb
        exact h.own k b hk hb
    · by_cases e : j = i
      · subst e
        have e2 : k ≠ j := fun h => hjk h.symm
        simp only [if_pos, if_neg e2] at hb hb'
        rcases hv b hb with h1 | h1
        · exact h.apart j k b hj hk hjk h1 hb'
        · exact h1.2.2.1 k hk hb'
      · by_cases e2 : k = i
        · subst e2
          simp only [if_pos, if_neg e] at hb hb'
          rcases hv b hb' with h1 | h1
          · exact h.apart j k b hj hk hjk hb h1
          · exact h1.2.2.1 j hj hb
        · simp only [if_neg e, if_neg e2] at hb hb'
          exact h.apart j k b hj hk hjk hb hb'
    · by_cases e : k = i
      · subst e
        simp only [if_pos] at hb
        rcases hv b hb with h1 | h1
        · exact h.kapart k b hk h1 hkb
        · exact h1.2.2.2 hkb
      · simp only [if_neg e] at hb
        exact h.kapart k b hk hb hkb
/-- the row of file i -/
theorem DRep.setData (hr : w.rowIs g 63 20 (cellD vs kv d)) (h : Rows3 w S g vs kv d) (i : Nat) (hi : i < 8) {v : Value} {l : List UInt8} (hf : Fil w v l)
    (hv : ∀ b, bl v = some b → bl (vs i) = some b ∨ (S b ∧ b ≠ g ∧ (∀ j, j < 8 → bl (vs j) ≠ some b) ∧ bl kv ≠ some b)) : DRep (w.setCell ⟨g, i * 2, none⟩ v) S g { d with fs := upd d.fs i ⟨l, (d.fs i).dur⟩ } :=
  DRep.setData2 hr h i hi (fun k hk _ => h.fil k hk) h.kp h.klt hf hv
/-- the row of file i shortened -/
theorem DRep.setTake (h : DRep w S g d) (i : Nat) (hi : i < 8) (n : Nat) (hn : n ≤ (d.fs i).data.length) :
    ∃ A c, w.cell? ⟨g, i * 2, none⟩ = some (.slice A (d.fs i).data.length c) ∧ (d.fs i).data.length ≤ c ∧ DRep (w.setCell ⟨g, i * 2, none⟩ (.slice A n c)) S g { d with fs := upd d.fs i ⟨(d.fs i).data.take n, (d.fs i).dur⟩ } := by
  obtain ⟨vs, kv, hr, h⟩ := h
  obtain ⟨A, c, hv, hc⟩ := (h.fil i hi).form
  refine ⟨A, c, ?_, hc, DRep.setData hr h i hi ?_ ?_⟩
  · rw [hr.cell (by omega), cellD_data _ _ _ _ hi, hv]
  · have := h.fil i hi
    rw [hv] at this
    exact this.take n hn
  · intro b hb
    left
    rw [hv, Fil.bl_take A _ n c]
    exact hb
/-- the row of file i grown by an append, and stored back -/
theorem DRep.appended {w' : World} (hr : w.rowIs g 63 20 (cellD vs kv d)) (h : Rows3 w S g vs kv d) (i : Nat) (hi : i < 8) {v : Value} {l : List UInt8} (hf : Fil w' v l) (hg : w.grownBy w' (bl (vs i)))
    (hv : bl v = bl (vs i) ∨ bl v = some w.heap.size) (hS : S w.heap.size) :
    w'.cell? ⟨g, i * 2, none⟩ = some (vs i) ∧ w'.frozen? ⟨g, i * 2, none⟩ = false ∧ DRep (w'.setCell ⟨g, i * 2, none⟩ v) S g { d with fs := upd d.fs i ⟨l, (d.fs i).dur⟩ } ∧ Fr S w (w'.setCell ⟨g, i * 2, none⟩ v) := by
  have hgl := hr.lt
  have hkb := h.klt
  have hr' : w'.rowIs g 63 20 (cellD vs kv d) := hr.of_block (hg.block g hgl fun e => (h.own i g hi e.symm).2 rfl)
  refine ⟨by rw [hr'.cell (by omega), cellD_data _ _ _ _ hi], hr'.frozen _, ?_, ?_⟩
  · refine DRep.setData2 hr' h i hi (fun k hk hne => (h.fil k hk).keep fun b hb => hg.block b ((h.fil k hk).block b hb) fun e => h.apart i k b hi hk (fun h => hne h.symm) e.symm hb) (h.kp.keep fun b hb => hg.block b (hkb b hb) fun e => h.kapart i b hi e.symm hb) (fun b hb => Nat.lt_of_lt_of_le (hkb b hb) hg.size) hf fun b hb => ?_
    rcases hv with hv | hv
    · left; rw [← hv]; exact hb
    · right
      have : b = w.heap.size := by rw [hv] at hb; exact (Option.some.inj hb).symm
      subst this
      refine ⟨hS, by omega, fun j hj hb => ?_, fun hb => ?_⟩
      · have := (h.fil j hj).block _ hb; omega
      · have := hkb _ hb; omega
  · exact (Fr.grown hg fun b hb => (h.own i b hi hb).1).trans (Fr.setCell (p := ⟨g, i * 2, none⟩) h.head _)
/-- a row of kept lengths made anew behind w0 -/
theorem DRep.setKeepNew {w0 : World} (h : DRep w0 S g d) (hg : w0.grownBy w none) {kv' : Value} {ks : List Int} (hk : Kp w kv' ks) (hb : ∀ b, bl kv' = some b → w0.heap.size ≤ b ∧ b < w.heap.size) (hS : ∀ b, w0.heap.size ≤ b → S b) :
    DRep (w.setCell ⟨g, 19, none⟩ kv') S g { d with keep := ks } := by
  obtain ⟨vs, kv, hr, h⟩ := h
  have hgl := hr.lt
  have same : ∀ b, b < w0.heap.size → w.heap[b]? = w0.heap[b]? := fun b hlt => hg.block b hlt (by simp)
  have hr := hr.of_block (same g hgl)
  refine ⟨vs, kv', (hr.set 19 kv').congr fun j hj => ?_, h.head, fun i hi => ?_, h.own, h.apart, hk.keep fun b hbb => Below.heap_setCell w _ kv' b (show b ≠ g by have := (hb b hbb).1; omega), fun b hbb => ⟨hS b (hb b hbb).1, by have := (hb b hbb).1; omega⟩, fun i b hi hv hkv => ?_, fun b hbb => by simpa using (hb b hbb).2⟩
  · show (if j = 19 then _ else _) = _
    by_cases h : j = 19
    · subst h; rfl
    · rw [if_neg h]
      unfold cellD
      split
      · rfl
      split
      · rfl
      split
      · rfl
      split
      · rfl
      · omega
  · exact ((h.fil i hi).keep fun b hbb => same b ((h.fil i hi).block b hbb)).keep fun b hbb => Below.heap_setCell w _ kv' b (h.own i b hi hbb).2
  · have h1 := (h.fil i hi).block b hv
    have h2 := (hb b hkv).1
    omega
end
end Go.Proofs.Ytjicccjpooahoaa
