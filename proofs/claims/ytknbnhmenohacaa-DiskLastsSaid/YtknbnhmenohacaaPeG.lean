/- What the operations that read or write memory do, on plain values. Nothing of the program. -/
import Derived.Test.YtknbnhmenohacaaPeF
namespace Go.Proofs.Ytknbnhmenohacaa.Pe
set_option linter.unusedSectionVars false
set_option linter.unusedVariables false
set_option linter.unusedSimpArgs false
open Go Go.RowKit
variable [Tab]
/-- operation o, in a state with values e and places S, yields v and leaves the places S' -/
def Does (P : Program) (o : Oper) (e : Env) (S : Store) (v : AV) (S' : Store) : Prop :=
  ∀ (a : Act) (w : World) (g : Gh), WF w g S → (∀ x, x ∈ o.op.operands.toList → Rel w g (ev e x) (a.eval x)) → ∀ (K : Act → World → Prop) (Q : Exit → Act → World → Prop),
    (∀ cv w' g', WF w' g' S' → Rel w' g' v cv → Evo w g w' g' → K (a.put o.dst cv) w') → o.wp P a w K Q
section
variable {P : Program}
theorem does_value {o : Oper} {e : Env} {S S' : Store} {v : AV} (h : ∀ (ρ : Operand → Value) (w : World) (g : Gh), WF w g S → (∀ x, x ∈ o.op.operands.toList → Rel w g (ev e x) (ρ x)) →
    ∃ cv w' g', (execOp ρ o).run P w = .ok (.value cv) w' ∧ WF w' g' S' ∧ Rel w' g' v cv ∧ Evo w g w' g') : Does P o e S v S' := by
  intro a w g hw hr K Q hK
  obtain ⟨cv, w', g', h1, h2, h3, h4⟩ := h a.eval w g hw hr
  unfold Oper.wp
  rw [h1]
  exact hK cv w' g' h2 h3 h4
theorem does_skip {o : Oper} {e : Env} {S S' : Store} (h : ∀ (ρ : Operand → Value) (w : World) (g : Gh), WF w g S → (∀ x, x ∈ o.op.operands.toList → Rel w g (ev e x) (ρ x)) →
    ∃ w' g', (execOp ρ o).run P w = .ok .skip w' ∧ WF w' g' S' ∧ Evo w g w' g') : Does P o e S .junk S' := by
  intro a w g hw hr K Q hK
  obtain ⟨w', g', h1, h2, h4⟩ := h a.eval w g hw hr
  unfold Oper.wp
  rw [h1]
  exact hK undef w' g' h2 (.junk _ _) h4
theorem does_aval {o : Oper} {e : Env} {S : Store} {v : AV} (h : aval P e o.op = some v) : Does P o e S v S :=
  does_value fun ρ w g hw hr => by
    obtain ⟨cv, h1, h2⟩ := aval_ok (w := w) (g := g) h hr
    exact ⟨cv, w, g, h1, hw, h2, Evo.refl w g⟩
/- loads -/
def aLoad (sz : Option (Nat × Bool)) (S : Store) (x : AV) : Option AV :=
  match sz, x with
  | some (sz, ag), .ptr l off => match S[l]? with
    | some (.cells cs) => apart cs off sz ag
    | _ => none
  | some (sz, ag), .pst v off => apart v.cells off sz ag
  | _, _ => none
theorem Rel.ofNoid {w : World} {g : Gh} {v : AV} {cv : Value} (h : Rel w g.noid v cv) : Rel w g v cv :=
  h.le ⟨fun _ _ _ _ h => h, fun _ _ _ h _ => h, Nat.zero_le _, fun l hl => absurd hl (Nat.not_lt_zero _)⟩
theorem loadVar_cells (w : World) {ty sz : Nat} {ag : Bool} (ht : szOf P ty = some (sz, ag)) (b o : Nat) (us : List Value) (hl : us.length = sz) (hag : ag = true)
    (hc : ∀ (j : Nat) u, us[j]? = some u → w.cell? ⟨b, o + j, none⟩ = some u) : (loadVar ty ⟨b, o, none⟩).run P w = .ok (.agg us.toArray) w := by
  subst hag
  have hl' : (loadCells ⟨b, o, none⟩ us.length).run P w = .ok us.toArray w := run_loadCells_list (P := P) w ⟨b, o, none⟩ us (fun j v hv => by rw [Addr.add_lit]; exact hc j v hv)
  rw [hl] at hl'
  simp [loadVar, run_isAgg ht, run_sizeOf ht, hl']
theorem loadVar_one (w : World) {ty sz : Nat} (ht : szOf P ty = some (sz, false)) (a : Addr) (u : Value) (hc : w.cell? a = some u) : (loadVar ty a).run P w = .ok u w := by
  simp [loadVar, run_isAgg ht, hc]
/-- a value in cells that lie in a row -/
theorem load_from {w : World} {g : Gh} {cs : List AV} {arr : Array Value} (hc : CellsRel w g cs arr) {b o : Nat} (hcell : ∀ j, j < arr.size → w.cell? ⟨b, o + j, none⟩ = arr[j]?)
    {ty off sz : Nat} {ag : Bool} (ht : szOf P ty = some (sz, ag)) {v : AV} (h : apart cs off sz ag = some v) : ∃ cv, (loadVar ty ⟨b, o + off, none⟩).run P w = .ok cv w ∧ Rel w g v cv := by
  cases ag with
  | true =>
    obtain ⟨h1, h2⟩ := apart_agg hc.1 hc.2.1 hc.2.2 h
    refine ⟨.agg (arr.extract off (off + sz)), ?_, h2⟩
    have hl : ((arr.extract off (off + sz)).toList).length = sz := by simp; omega
    have := loadVar_cells (P := P) w ht b (o + off) (arr.extract off (off + sz)).toList hl rfl (fun j u hu => by
      have hu' := hu
      rw [Array.getElem?_toList] at hu'
      rw [Array.getElem?_extract] at hu'
      split at hu'
      · have hlt := (Array.getElem?_eq_some_iff.1 hu').1
        rw [Nat.add_assoc, hcell _ hlt]
        exact hu'
      · cases hu')
    rw [Array.toArray_toList] at this
    exact this
  | false =>
    simp only [apart, Bool.false_eq_true, if_false] at h
    have hlt : off < cs.length := (List.getElem?_eq_some_iff.1 h).1
    have hlt' : off < arr.size := by rw [hc.1]; exact hlt
    have hv : arr[off]? = some arr[off] := Array.getElem?_eq_getElem hlt'
    exact ⟨arr[off], loadVar_one w ht _ _ (by rw [hcell _ hlt', hv]), hc.2.2 off v _ h hv⟩
theorem obj_cells {w : World} {g : Gh} {S : Store} (h : WF w g S) {l : Nat} {cs : List AV} (hl : S[l]? = some (.cells cs)) : ∃ arr T, ∃ fr : Nat × Nat, w.heap[g.pl l]? = some (.cells arr T fr) ∧ fr.2 ≤ fr.1 ∧ CellsRel w g cs arr ∧
    l < g.nid ∧ g.buf l = false ∧ g.own l (g.pl l) ∧ g.G (g.pl l) = 0 := by
  obtain ⟨h1, h2, h3, arr, T, fr, h4, h5, h6, h7, h8⟩ := h.obj l _ hl
  exact ⟨arr, T, fr, h4, h5, ⟨h6, h7, h8⟩, by rw [h.nid]; exact (List.getElem?_eq_some_iff.1 hl).1, h1, h2, h3⟩
theorem does_load {o : Oper} {e : Env} {S : Store} {v : AV} {ty : TypeId} {x : Operand} (ho : o.op = .load ty x) (h : aLoad (szOf P ty) S (ev e x) = some v) : Does P o e S v S :=
  does_value fun ρ w g hw hr => by
    have hx := hr x (by rw [ho]; simp [Op.operands])
    unfold aLoad at h
    split at h
    · rename_i sz ag l off hs hxe
      split at h
      · rename_i cs hS
        obtain ⟨arr, T, fr, h4, h5, hc, hl, _⟩ := obj_cells hw hS
        rw [hxe] at hx
        generalize hcx : ρ x = cx at hx
        cases hx
        obtain ⟨cv, h1, h2⟩ := load_from (P := P) hc (b := g.pl l) (o := 0) (fun j hj => by rw [Nat.zero_add, cell_of_row w (g.pl l) j arr T fr h4]) hs h
        rw [Nat.zero_add] at h1
        refine ⟨cv, w, g, ?_, hw, h2, Evo.refl w g⟩
        unfold execOp
        simp only [ho, hcx, Instr.loadAt, Instr.sureAddr, Sem.run_bind, Sem.run_pure, Result.andThen_ok, h1]
      · cases h
    · rename_i sz ag v' off hs hxe
      rw [hxe] at hx
      generalize hcx : ρ x = cx at hx
      cases hx with
      | pst _ _ _ b o' cu hA h1 hr' =>
        have hc : CellsRel w g v'.cells ((List.range v'.cells.length).map cu).toArray := by
          refine ⟨by simp, fun u hu => ?_, fun j u z hu hz => ?_⟩
          · simp only [List.mem_map, List.mem_range] at hu
            obtain ⟨j, hj, rfl⟩ := hu
            exact h1 j hj
          · have hj := (List.getElem?_eq_some_iff.1 hu).1
            simp [List.getElem?_range hj] at hz
            rw [← hz]
            exact (hr' j u hu).ofNoid
        obtain ⟨cv, h2, h3⟩ := load_from (P := P) hc (b := b) (o := o') (fun j hj => by
          have hj' : j < v'.cells.length := by simpa using hj
          rw [(hA j hj').2]
          simp [List.getElem?_range hj']) hs h
        refine ⟨cv, w, g, ?_, hw, h3, Evo.refl w g⟩
        unfold execOp
        simp only [ho, hcx, Instr.loadAt, Instr.sureAddr, Sem.run_bind, Sem.run_pure, Result.andThen_ok, h2]
    · cases h
/- stores -/
def aStore (sz : Option (Nat × Bool)) (S : Store) (x v : AV) : Option Store :=
  match sz, x with
  | some (sz, _), .ptr l off => match S[l]? with
    | some (.cells cs) => if v.solid = true ∧ v.cells.length = sz ∧ off + sz ≤ cs.length then some (S.set l (.cells (aSet cs off v.cells))) else none
    | _ => none
  | _, _ => none
theorem cells_setRow {w : World} {g : Gh} {cs us : List AV} {arr ua : Array Value} (h : CellsRel w g cs arr) (hu : CellsRel w g us ua) {off : Nat} (hle : off + us.length ≤ cs.length) :
    CellsRel w g (aSet cs off us) (arr.toList.take off ++ ua.toList ++ arr.toList.drop (off + ua.toList.length)).toArray := by
  have hul : ua.toList.length = us.length := by simpa using hu.1
  have hal : arr.toList.length = cs.length := by simpa using h.1
  refine ⟨?_, fun v hv => ?_, fun j u v hju hjv => ?_⟩
  · rw [aSet_length hle]
    simp only [List.size_toArray, List.length_append, List.length_take, List.length_drop]
    omega
  · simp only [List.mem_append] at hv
    rcases hv with (hv | hv) | hv
    · exact h.2.1 v (List.mem_of_mem_take hv)
    · exact hu.2.1 v hv
    · exact h.2.1 v (List.mem_of_mem_drop hv)
  · rw [aSet_get hle] at hju
    simp only [List.getElem?_toArray] at hjv
    rw [List.append_assoc] at hjv
    have hlt : (arr.toList.take off).length = off := by rw [List.length_take]; omega
    by_cases h1 : j < off
    · rw [if_neg (by omega)] at hju
      rw [List.getElem?_append_left (by omega), List.getElem?_take_of_lt h1] at hjv
      exact h.2.2 j u v hju (by simpa using hjv)
    · rw [List.getElem?_append_right (by omega), hlt] at hjv
      by_cases h2 : j < off + us.length
      · rw [if_pos ⟨by omega, h2⟩] at hju
        rw [List.getElem?_append_left (by omega)] at hjv
        exact hu.2.2 _ u v hju (by simpa using hjv)
      · rw [if_neg (by omega)] at hju
        rw [List.getElem?_append_right (by omega), List.getElem?_drop, show off + ua.toList.length + (j - off - ua.toList.length) = j from by omega] at hjv
        exact h.2.2 j u v hju (by simpa using hjv)
theorem Le.setRow {w : World} {g : Gh} {b : Nat} (h0 : g.G b = 0) (cs : Array Value) : Le w g (w.setRow b cs) g := by
  refine ⟨fun b' o v hb hv => ?_, fun _ _ _ h _ => h, Nat.le_refl _, fun _ _ => ⟨rfl, .inl ⟨rfl, rfl, rfl⟩⟩⟩
  have hne : b' ≠ b := fun e => by subst e; omega
  rw [World.cell?_of_block (w := w) (w' := w.setRow b cs) (setRow_other w b b' cs hne)]
  exact hv
theorem does_store {o : Oper} {e : Env} {S S' : Store} {ty : TypeId} {x y : Operand} (ho : o.op = .store ty x y) (h : aStore (szOf P ty) S (ev e x) (ev e y) = some S') : Does P o e S .junk S' :=
  does_skip fun ρ w g hw hr => by
    have hx := hr x (by rw [ho]; simp [Op.operands])
    have hy := hr y (by rw [ho]; simp [Op.operands])
    unfold aStore at h
    split at h
    · rename_i sz ag l off hs hxe
      split at h
      · rename_i cs hS
        split at h
        · rename_i hcond
          obtain ⟨hsol, hlen, hle⟩ := hcond
          cases h
          obtain ⟨arr, T, fr, h4, h5, hc, hl, hb, hown, hG⟩ := obj_cells hw hS
          rw [hxe] at hx
          generalize hcx : ρ x = cx at hx
          cases hx
          have hu := cells_of_rel hy hsol
          have hul : (ρ y).cells.toList.length = sz := by have := hu.1; simp; omega
          obtain ⟨i, d, hi1, hi2, hi3, hi4⟩ := szOf_spec hs
          have hst := storeCells_fr (P := P) (g.pl l) off T fr (ρ y).cells.toList 0 arr w h4 (.inl h5) (by rw [hul]; have := hc.1; omega) hu.2.1
          simp only [Nat.add_zero] at hst
          have hle' := Le.setRow (w := w) hG (arr.toList.take off ++ (ρ y).cells.toList ++ arr.toList.drop (off + (ρ y).cells.toList.length)).toArray
          have hnew := cells_setRow hc hu (off := off) (by omega)
          have hlS : l < S.length := (List.getElem?_eq_some_iff.1 hS).1
          refine ⟨w.setRow (g.pl l) _, g, ?_, hw.touch hlS hle' rfl (fun _ _ _ => ⟨rfl, rfl, rfl, rfl, rfl⟩) (fun b hb => .inl hb) (by simp) (fun _ _ _ => rfl) (fun b _ hno => ?_) ?_, ⟨hle', rfl, rfl, rfl, by simp, fun b _ hno => ?_, fun _ _ hk hb _ => ⟨hk, hb⟩, fun _ _ _ => rfl⟩⟩
          · unfold execOp
            simp only [ho, hcx, Instr.storeAt, Instr.sureAddr, Sem.run_bind, Sem.run_pure, Result.andThen_ok, storeVar, run_sizeOf hs]
            have hsz : (ρ y).cells.size = sz := by rw [hu.1, hlen]
            simp only [hsz, ne_eq, not_true_eq_false, if_false]
            rw [hst]
            rfl
          · exact setRow_other w _ b _ (fun e => hno (by rw [e]; exact hown))
          · have hnew := hnew.le hle'
            exact ⟨hb, hown, hG, _, T, fr, setRow_heap w (g.pl l) arr _ T fr h4, h5, hnew.1, hnew.2.1, hnew.2.2⟩
          · exact setRow_other w _ b _ (fun e => hno l hl (by rw [e]; exact hown))
        · cases h
      · cases h
    · cases h
/- new places -/
theorem does_box {o : Oper} {e : Env} {S : Store} {ty : TypeId} {x : Operand} (ho : o.op = .box ty x) (h : (ev e x).solid = true) : Does P o e S (.ptr S.length 0) (S ++ [.cells (ev e x).cells]) :=
  does_value fun ρ w g hw hr => by
    have hx := hr x (by rw [ho]; simp [Op.operands])
    obtain ⟨g', h1, h2, h3⟩ := hw.new_cells (cells_of_rel hx h) ty
    refine ⟨_, _, g', ?_, h1, h3, h2⟩
    unfold execOp
    simp only [ho, Instr.box, newVar, newRow, newObj, Sem.run_bind, Sem.run_pure, Result.andThen_ok, Sem.run]
    rfl
theorem does_alloc {o : Oper} {e : Env} {S : Store} {ty : TypeId} {z : List AV} (ho : o.op = .alloc ty) (h : zerOf P ty = some z) : Does P o e S (.ptr S.length 0) (S ++ [.cells z]) :=
  does_value fun ρ w g hw hr => by
    obtain ⟨i, zv, h1, h2, h3, rfl⟩ := zerOf_spec h
    obtain ⟨g', h4, h5, h6⟩ := hw.new_cells (cst1_cells w g _ h3) ty
    refine ⟨_, _, g', ?_, h4, h6, h5⟩
    unfold execOp
    have hz : (zeroValue ty).run P w = .ok zv w := by simp [zeroValue, typeInfo, h1, h2]
    simp only [ho, Instr.alloc, newVar, newRow, newObj, Sem.run_bind, hz, Sem.run_pure, Result.andThen_ok, Sem.run]
    rfl
end
end Go.Proofs.Ytknbnhmenohacaa.Pe
