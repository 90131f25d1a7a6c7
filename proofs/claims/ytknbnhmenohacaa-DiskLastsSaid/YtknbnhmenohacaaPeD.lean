/- All operations that leave memory alone, on plain values: 'aval', and that the model's operations yield it. Nothing of the program. -/
import Derived.Test.YtknbnhmenohacaaPeC
import Derived.Laws.Tables
namespace Go.Proofs.Ytknbnhmenohacaa.Pe
set_option linter.unusedSectionVars false
set_option linter.unusedVariables false
set_option linter.unusedSimpArgs false
open Go Go.RowKit
def AV.solid : AV → Bool
  | .junk => false
  | .tup _ => false
  | _ => true
def CellsRel (w : World) (g : Gh) (cs : List AV) (arr : Array Value) : Prop :=
  arr.size = cs.length ∧ (∀ v ∈ arr.toList, v.oneCell' = true) ∧ ∀ (j : Nat) u v, cs[j]? = some u → arr[j]? = some v → Rel w g u v
theorem CellsRel.le {w w' : World} {g g' : Gh} {cs : List AV} {arr : Array Value} (h : CellsRel w g cs arr) (hl : Le w g w' g') : CellsRel w' g' cs arr :=
  ⟨h.1, h.2.1, fun j u v hu hv => (h.2.2 j u v hu hv).le hl⟩
theorem Rel.one {w : World} {g : Gh} {v : AV} {cv : Value} (h : Rel w g v cv) (hs : v.solid = true) (hc : ∀ cs, v ≠ .agg cs) : cv.oneCell' = true ∧ v.cells = [v] ∧ cv.cells = #[cv] := by
  cases h <;> first | (exact ⟨rfl, rfl, rfl⟩) | (simp [AV.solid] at hs; done) | (exact absurd rfl (hc _)) | skip
  rename_i h
  refine ⟨h, rfl, ?_⟩
  cases cv <;> first | rfl | (simp [Value.oneCell'] at h)
theorem cells_of_rel {w : World} {g : Gh} {v : AV} {cv : Value} (h : Rel w g v cv) (hs : v.solid = true) : CellsRel w g v.cells cv.cells := by
  by_cases hc : ∃ cs, v = .agg cs
  · obtain ⟨cs, rfl⟩ := hc
    cases h with | agg _ _ arr hn h1 hr => exact ⟨hn, h1, hr⟩
  · obtain ⟨h1, h2, h3⟩ := h.one hs (fun cs e => hc ⟨cs, e⟩)
    rw [h2, h3]
    refine ⟨rfl, fun u hu => ?_, fun j u z hu hz => ?_⟩
    · simp only [List.mem_cons, List.not_mem_nil, or_false] at hu
      rw [hu]; exact h1
    · cases j with
      | zero => simp at hu hz; rw [← hu, ← hz]; exact h
      | succ j => simp at hu
theorem agg_of_cells {w : World} {g : Gh} {cs : List AV} {arr : Array Value} (h : CellsRel w g cs arr) : Rel w g (.agg cs) (.agg arr) := .agg g cs arr h.1 h.2.1 h.2.2
def aSet (cs : List AV) (off : Nat) (us : List AV) : List AV := cs.take off ++ us ++ cs.drop (off + us.length)
theorem aSet_length {cs us : List AV} {off : Nat} (h : off + us.length ≤ cs.length) : (aSet cs off us).length = cs.length := by
  simp only [aSet, List.length_append, List.length_take, List.length_drop]; omega
theorem aSet_get {cs us : List AV} {off j : Nat} (h : off + us.length ≤ cs.length) : (aSet cs off us)[j]? = if off ≤ j ∧ j < off + us.length then us[j - off]? else cs[j]? := by
  have hl : (cs.take off).length = off := by simp; omega
  unfold aSet
  rw [List.append_assoc]
  by_cases h1 : j < off
  · rw [List.getElem?_append_left (by omega), List.getElem?_take_of_lt h1, if_neg (by omega)]
  · rw [List.getElem?_append_right (by omega), hl]
    by_cases h2 : j < off + us.length
    · rw [List.getElem?_append_left (by omega), if_pos ⟨by omega, h2⟩]
    · rw [List.getElem?_append_right (by omega), if_neg (by omega), List.getElem?_drop]
      congr 1
      omega
theorem foldl_set (off : Nat) : ∀ (vs : List Value) (k : Nat) (arr : Array Value), off + k + vs.length ≤ arr.size →
    let r := (vs.zipIdx k).foldl (fun cs (p : Value × Nat) => cs.setIfInBounds (off + p.2) p.1) arr
    r.size = arr.size ∧ ∀ j : Nat, r[j]? = if off + k ≤ j ∧ j < off + k + vs.length then vs[j - (off + k)]? else arr[j]?
  | [], k, arr, h => by
    refine ⟨rfl, fun j => ?_⟩
    rw [if_neg (by simp)]
    rfl
  | v :: vs, k, arr, h => by
    have hlt : off + k < arr.size := by simp at h; omega
    obtain ⟨h1, h2⟩ := foldl_set off vs (k + 1) (arr.setIfInBounds (off + k) v) (by simp at h ⊢; omega)
    simp only [List.zipIdx_cons, List.foldl_cons]
    refine ⟨by rw [h1]; simp, fun j => ?_⟩
    rw [h2 j]
    simp only [List.length_cons]
    by_cases hj : j = off + k
    · subst hj
      rw [if_neg (by omega), if_pos (by omega)]
      simp [hlt]
    · by_cases hj2 : off + (k + 1) ≤ j ∧ j < off + (k + 1) + vs.length
      · rw [if_pos hj2, if_pos (by omega), show j - (off + k) = (j - (off + (k + 1))) + 1 from by omega]
        simp
      · rw [if_neg hj2, if_neg (by omega), Array.getElem?_setIfInBounds_ne (by omega)]
theorem set_cells {w : World} {g : Gh} {cs us : List AV} {arr ua : Array Value} (h : CellsRel w g cs arr) (hu : CellsRel w g us ua) {off : Nat} (hle : off + us.length ≤ cs.length) :
    CellsRel w g (aSet cs off us) (ua.zipIdx.foldl (fun cs (p : Value × Nat) => cs.setIfInBounds (off + p.2) p.1) arr) := by
  rw [← Array.foldl_toList, Array.toList_zipIdx]
  have hul : ua.toList.length = us.length := by simpa using hu.1
  obtain ⟨h1, h2⟩ := foldl_set off ua.toList 0 arr (by rw [hul, h.1]; omega)
  generalize List.foldl (fun cs (p : Value × Nat) => cs.setIfInBounds (off + p.2) p.1) arr (ua.toList.zipIdx 0) = r at *
  have hg : ∀ j : Nat, r[j]? = if off ≤ j ∧ j < off + us.length then ua[j - off]? else arr[j]? := by
    intro j
    have := h2 j
    rw [hul] at this
    simpa using this
  refine ⟨by rw [h1, h.1, aSet_length hle], fun v hv => ?_, fun j u v hju hjv => ?_⟩
  · obtain ⟨j, hj⟩ := List.mem_iff_getElem?.1 hv
    have hj' : r[j]? = some v := by simpa using hj
    rw [hg j] at hj'
    split at hj'
    · exact hu.2.1 v (List.mem_iff_getElem?.2 ⟨_, by simpa using hj'⟩)
    · exact h.2.1 v (List.mem_iff_getElem?.2 ⟨_, by simpa using hj'⟩)
  · rw [aSet_get hle] at hju
    rw [hg j] at hjv
    split at hju
    · rename_i hc
      rw [if_pos hc] at hjv
      exact hu.2.2 _ u v hju hjv
    · rename_i hc
      rw [if_neg hc] at hjv
      exact h.2.2 _ u v hju hjv
def aFill (pl : List (Nat × Nat)) (cs : List AV) : List (Nat × AV) → Option (List AV)
  | [] => some cs
  | (i, v) :: rest =>
    match pl[i]? with
    | some (off, sz) => if v.solid = true ∧ v.cells.length = sz ∧ off + sz ≤ cs.length then aFill pl (aSet cs off v.cells) rest else none
    | none => none
theorem aFill_ok {w : World} {g : Gh} (pl : List (Nat × Nat)) (place : Nat → Option (Nat × Nat)) (hpl : ∀ (i : Nat) p, pl[i]? = some p → place i = some p) :
    ∀ (ops : List (Nat × Operand)) (e : Env) (ρ : Operand → Value) (cs cs' : List AV) (arr : Array Value), CellsRel w g cs arr → (∀ p ∈ ops, Rel w g (ev e p.2) (ρ p.2)) →
    aFill pl cs (ops.map fun p => (p.1, ev e p.2)) = some cs' → ∃ arr', Instr.fill place arr (ops.map fun p => (p.1, ρ p.2)) = some arr' ∧ CellsRel w g cs' arr'
  | [], e, ρ, cs, cs', arr, hc, hr, h => by
    simp only [List.map_nil, aFill, Option.some.injEq] at h
    subst h
    exact ⟨arr, rfl, hc⟩
  | (i, x) :: rest, e, ρ, cs, cs', arr, hc, hr, h => by
    simp only [List.map_cons, aFill] at h
    split at h
    · rename_i off sz hi
      split at h
      · rename_i hcond
        obtain ⟨h1, h2, h3⟩ := hcond
        have hu := cells_of_rel (hr (i, x) (by simp)) h1
        have hs := set_cells hc hu (off := off) (by have h2' : (ev e (i, x).2).cells.length = sz := h2; omega)
        obtain ⟨arr', h4, h5⟩ := aFill_ok pl place hpl rest e ρ _ cs' _ hs (fun p hp => hr p (by simp [hp])) h
        refine ⟨arr', ?_, h5⟩
        have e1 : (ρ x).cells.size = sz := by rw [hu.1, h2]
        have e2 : arr.size = cs.length := hc.1
        simp only [List.map_cons, Instr.fill, hpl i _ hi, e1, ne_eq, not_true_eq_false, decide_false, Bool.false_or, e2, gt_iff_lt, decide_eq_true_eq]
        rw [if_neg (by omega)]
        exact h4
      · cases h
    · cases h
def zerOf (P : Program) (t : TypeId) : Option (List AV) :=
  match P.info? t with
  | some i => match i.zero with
    | some z => if z.cells.toList.all (·.oneCell') then some (z.cells.toList.map cst1) else none
    | none => none
  | none => none
theorem zerOf_spec {P : Program} {t : TypeId} {cs : List AV} (h : zerOf P t = some cs) : ∃ i z, P.info? t = some i ∧ i.zero = some z ∧ (∀ v ∈ z.cells.toList, v.oneCell' = true) ∧ cs = z.cells.toList.map cst1 := by
  unfold zerOf at h
  split at h
  · rename_i i h1
    split at h
    · rename_i z h2
      split at h
      · rename_i h3
        cases h
        exact ⟨i, z, h1, h2, fun v hv => by simpa using (List.all_eq_true.1 h3) v hv, rfl⟩
      · cases h
    · cases h
  · cases h
theorem cst1_cells (w : World) (g : Gh) (arr : Array Value) (h : ∀ v ∈ arr.toList, v.oneCell' = true) : CellsRel w g (arr.toList.map cst1) arr := by
  refine ⟨by simp, h, fun j u v hu hv => ?_⟩
  rw [List.getElem?_map] at hu
  have : arr.toList[j]? = some v := by simpa using hv
  rw [this] at hu
  simp only [Option.map_some, Option.some.injEq] at hu
  subst hu
  exact cst1_ok w g v
def strOf (P : Program) (t : TypeId) : Option (List (Nat × Nat) × List AV) :=
  match P.underlying t, zerOf P t with
  | some (.struct fs), some z => (fs.toList.mapM fun f => (P.info? f.type).map fun i => (f.offset, i.size)).map fun pl => (pl, z)
  | some (.array n e), some z => (P.info? e).map fun i => ((List.range n).map fun k => (k * i.size, i.size), z)
  | _, _ => none
theorem aBuild_ok {P : Program} {w : World} {g : Gh} {t : TypeId} {pl : List (Nat × Nat)} {z cs : List AV} (hs : strOf P t = some (pl, z)) (parts : Array (Nat × Operand)) (e : Env) (ρ : Operand → Value)
    (hr : ∀ p ∈ parts.toList, Rel w g (ev e p.2) (ρ p.2)) (h : aFill pl z (parts.toList.map fun p => (p.1, ev e p.2)) = some cs) :
    ∃ cv, (Instr.build t (parts.map fun (i, x) => (i, ρ x))).run P w = .ok cv w ∧ Rel w g (.agg cs) cv := by
  unfold strOf at hs
  split at hs
  · rename_i fs z' hu hz
    obtain ⟨pl', hpl, hp⟩ := Option.map_eq_some_iff.1 hs
    cases hp
    obtain ⟨i, zv, h1, h2, h3, rfl⟩ := zerOf_spec hz
    obtain ⟨arr', h4, h5⟩ := aFill_ok pl (pl.toArray[·]?) (fun i p hp => by simpa using hp) parts.toList e ρ _ cs zv.cells (cst1_cells w g _ h3) hr h
    refine ⟨.agg arr', run_build w t _ arr' ?_, agg_of_cells h5⟩
    simp only [Program.built, h1, hu, h2, hpl]
    rw [← h4]
    simp
  · rename_i n el z' hu hz
    obtain ⟨ie, hie, hp⟩ := Option.map_eq_some_iff.1 hs
    cases hp
    obtain ⟨i, zv, h1, h2, h3, rfl⟩ := zerOf_spec hz
    obtain ⟨arr', h4, h5⟩ := aFill_ok _ (fun k => some (k * ie.size, ie.size)) (fun k p hp => by
      rw [List.getElem?_map] at hp
      obtain ⟨a, ha, rfl⟩ := Option.map_eq_some_iff.1 hp
      have := (List.getElem?_eq_some_iff.1 ha)
      obtain ⟨hlt, he⟩ := this
      simp at he
      rw [he]) parts.toList e ρ _ cs zv.cells (cst1_cells w g _ h3) hr h
    refine ⟨.agg arr', run_build w t _ arr' ?_, agg_of_cells h5⟩
    simp only [Program.built, h1, hu, h2, hie]
    rw [← h4]
    simp
  · cases hs
end Go.Proofs.Ytknbnhmenohacaa.Pe
