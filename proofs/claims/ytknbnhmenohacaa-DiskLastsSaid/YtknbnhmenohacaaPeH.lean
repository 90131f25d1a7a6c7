/- Slices made by a literal, by make, out of a string, and appended to. Nothing of the program. -/
import Derived.Test.YtknbnhmenohacaaPeG
namespace Go.Proofs.Ytknbnhmenohacaa.Pe
set_option linter.unusedSectionVars false
set_option linter.unusedVariables false
set_option linter.unusedSimpArgs false
open Go Go.RowKit
variable [Tab]
/-- a value as others may keep it: what may be appended to is only read, numbers are forgotten -/
def AV.ro1 : AV → AV
  | .sl (.own _) es => .sl .ro es
  | .ptr _ _ => .junk
  | .mp _ => .junk
  | .ws _ _ _ _ => .junk
  | .fn f [] [] => .fn f [] []
  | .fn _ _ _ => .junk
  | v => v
def AV.ro : AV → AV
  | .agg cs => .agg (cs.map AV.ro1)
  | .tup _ => .junk
  | v => v.ro1
section
variable {P : Program} {w : World} {g : Gh}
theorem ModeOk.noid {m : Mode} {n c : Nat} {A : Option Addr} (h : ModeOk g m n A c) (hm : ∀ l, m ≠ .own l) : ModeOk g.noid m n A c := by
  cases m with
  | ro => trivial
  | full => exact h
  | own l => exact absurd rfl (hm l)
theorem Rel.ro1 {v : AV} {cv : Value} (h : Rel w g v cv) (hag : ∀ cs, v ≠ .agg cs) (ht : ∀ cs, v ≠ .tup cs) : Rel w g.noid v.ro1 cv := by
  cases h with
  | bo => exact .bo _ _
  | it => exact .it _ _ _
  | st => exact .st _ _
  | ot _ _ h => exact .ot _ _ h
  | junk => exact .junk _ _
  | sl _ m es A c sz cu hc hcm hsz hA h1 hr hm =>
    cases m with
    | ro => exact .sl _ .ro es A c sz cu hc hcm hsz hA h1 hr trivial
    | full => exact .sl _ .full es A c sz cu hc hcm hsz hA h1 hr hm
    | own l => exact .sl _ .ro es A c sz cu hc hcm hsz hA h1 hr trivial
  | agg _ cs => exact absurd rfl (hag cs)
  | tup _ cs => exact absurd rfl (ht cs)
  | ptr => exact .junk _ _
  | pst _ e off b o cu hA h1 hr => exact .pst _ e off b o cu hA h1 hr
  | fn _ f first caps fa ca hf hc' hrf hrc =>
    unfold AV.ro1
    split
    · rename_i h; cases h
    · rename_i h; cases h
    · rename_i h; cases h
    · rename_i h; cases h
    · rename_i h
      cases h
      exact .fn _ f [] [] fa ca hf hc' (by simp) (by simp)
    · exact .junk _ _
    · rename_i h; exact absurd rfl (h f first caps)
  | mp => exact .junk _ _
  | ws => exact .junk _ _
theorem oneCell_not_agg {v : AV} {cv : Value} (h : Rel w g v cv) (h1 : cv.oneCell' = true) : (∀ cs, v ≠ .agg cs) ∧ ∀ cs, v ≠ .tup cs := by
  constructor
  · intro cs e; subst e; cases h; simp [Value.oneCell'] at h1
  · intro cs e; subst e; cases h; simp [Value.oneCell'] at h1
theorem CellsRel.ro {cs : List AV} {arr : Array Value} (h : CellsRel w g cs arr) : CellsRel w g.noid (cs.map AV.ro1) arr := by
  refine ⟨by simpa using h.1, h.2.1, fun j u v hu hv => ?_⟩
  rw [List.getElem?_map] at hu
  obtain ⟨u', hu', rfl⟩ := Option.map_eq_some_iff.1 hu
  have hr := h.2.2 j u' v hu' hv
  have h1 := h.2.1 v (List.mem_iff_getElem?.2 ⟨j, by simpa using hv⟩)
  obtain ⟨ha, ht⟩ := oneCell_not_agg hr h1
  exact hr.ro1 ha ht
theorem ro_cells (v : AV) (h : v.solid = true) : v.ro.cells = v.cells.map AV.ro1 := by
  cases v with
  | agg cs => rfl
  | tup vs => simp [AV.solid] at h
  | junk => rfl
  | sl m es => cases m <;> rfl
  | fn f a b => cases a <;> cases b <;> rfl
  | _ => rfl
/-- a slice whose cells lie in a new block that nobody will write -/
theorem new_slice {es : List AV} {arr : Array Value} (m : Mode) (hmode : m = .ro ∨ m = .full) (hc : CellsRel w g.noid (flat es) arr) {sz : Nat} (hsz : ∀ e ∈ es, e.cells.length = sz) (hm : es.length ≤ maxLen) (T : TypeId) :
    Rel (w.alloc (.cells arr T)) (g.stab w.heap.size arr.size) (.sl m es) (.slice (some ⟨w.heap.size, 0, none⟩) es.length es.length) := by
  refine .sl _ m es _ _ sz (fun j => arr.getD j undef) (Nat.le_refl _) hm hsz (fun _ => ⟨w.heap.size, 0, rfl, fun j hj => ?_⟩) (fun j hj => ?_) (fun j u hu => ?_) ?_
  · have hj' : j < arr.size := by rw [hc.1]; exact hj
    refine ⟨by simp [Gh.stab]; exact hj', ?_⟩
    rw [Nat.zero_add, cell_of_row _ _ j arr T (0, 0) (heap_alloc_new w _)]
    simp [Array.getD, hj']
  · have hj' : j < arr.size := by rw [hc.1]; exact hj
    refine hc.2.1 _ ?_
    simp [Array.getD, hj']
  · have hj := (List.getElem?_eq_some_iff.1 hu).1
    have hj' : j < arr.size := by rw [hc.1]; exact hj
    have : arr[j]? = some (arr.getD j undef) := by simp [Array.getD, hj']
    exact (hc.2.2 j u _ hu this).le (Le.stab_new w g (.cells arr T) arr.size).noid
  · rcases hmode with rfl | rfl
    · trivial
    · exact rfl
/- literals -/
theorem aFill_seq (pl : List (Nat × Nat)) (sz : Nat) : ∀ (qs : List (Nat × AV)) (k : Nat) (done : List AV), done.length = k * sz → qs.map (·.1) = List.range' k qs.length → (∀ q ∈ qs, q.2.solid = true ∧ q.2.cells.length = sz) →
    (∀ i, k ≤ i → i < k + qs.length → pl[i]? = some (i * sz, sz)) → aFill pl (done ++ List.replicate (qs.length * sz) .junk) qs = some (done ++ flat (qs.map (·.2)))
  | [], k, done, h, hq, hv, hpl => by simp [aFill, flat]
  | (i, v) :: qs, k, done, h, hq, hv, hpl => by
    simp only [List.map_cons, List.length_cons, List.range'_succ, List.cons.injEq] at hq
    obtain ⟨rfl, hq⟩ := hq
    obtain ⟨h1, h2⟩ := hv (i, v) (by simp)
    simp only at h1 h2
    have hp := hpl i (Nat.le_refl _) (by simp)
    have ih := aFill_seq pl sz qs (i + 1) (done ++ v.cells) (by rw [List.length_append, h, h2, Nat.add_mul]; omega) hq (fun q hq => hv q (by simp [hq])) (fun j h1 h2 => hpl j (by omega) (by simp; omega))
    simp only [aFill, hp]
    have e : aSet (done ++ List.replicate ((qs.length + 1) * sz) .junk) (i * sz) v.cells = done ++ v.cells ++ List.replicate (qs.length * sz) .junk := by
      unfold aSet
      rw [List.take_left' h, ← h, ← List.drop_drop, List.drop_left, List.drop_replicate, h2]
      congr 2
      rw [Nat.add_mul]; omega
    rw [if_pos ⟨h1, h2, by simp only [List.length_append, List.length_replicate, List.length_cons, h]; rw [Nat.add_mul]; omega⟩]
    rw [show (i, v) :: qs = (i, v) :: qs from rfl, List.length_cons, e, ih]
    simp [flat, List.append_assoc]
def aLit (P : Program) (t : TypeId) (n : Nat) (qs : List (Nat × AV)) : Option AV :=
  match sleOf P t with
  | some (_, sz, _) => if qs.map (·.1) = List.range' 0 n ∧ (qs.all fun q => q.2.solid && q.2.cells.length == sz) = true ∧ n * sz ≤ 16777216 ∧ 0 < sz then some (.sl .full ((qs.map (·.2)).map AV.ro)) else none
  | none => none
theorem ro_length (v : AV) (h : v.solid = true) : v.ro.cells.length = v.cells.length := by rw [ro_cells v h, List.length_map]
theorem flat_ro (es : List AV) (h : ∀ e ∈ es, e.solid = true) : flat (es.map AV.ro) = (flat es).map AV.ro1 := by
  induction es with
  | nil => rfl
  | cons e es ih =>
    simp only [flat, List.map_cons, List.flatMap_cons, List.map_append] at *
    rw [ih (fun x hx => h x (by simp [hx])), ro_cells e (h e (by simp))]
theorem does_lit {o : Oper} {e : Env} {S : Store} {v : AV} {t : TypeId} {n : Nat} {parts : Array (Nat × Operand)} (ho : o.op = .buildSlice t n parts)
    (h : aLit P t n (parts.toList.map fun p => (p.1, ev e p.2)) = some v) (hz : ∀ e' sz ag, sleOf P t = some (e', sz, ag) → (zerOf P e').isSome = true) : Does P o e S v S :=
  does_value fun ρ w g hw hr => by
    unfold aLit at h
    split at h
    · rename_i el sz ag hs
      split at h
      · rename_i hcond
        obtain ⟨hq, hall, hn, hsz⟩ := hcond
        cases h
        obtain ⟨hu, hse⟩ := sleOf_spec hs
        obtain ⟨z, hzz⟩ := Option.isSome_iff_exists.1 (hz el sz ag hs)
        obtain ⟨iz, zv, hz1, hz2, hz3, _⟩ := zerOf_spec hzz
        have hqs : ∀ q ∈ parts.toList.map (fun p => (p.1, ev e p.2)), q.2.solid = true ∧ q.2.cells.length = sz := fun q hq => by
          have := (List.all_eq_true.1 hall) q hq
          simpa using this
        generalize hzero : (if n * sz = 0 then (#[] : Array Value) else zv.cells) = zero at *
        have hzc : ∀ k : Nat, Value.oneCell' (zero[k]!) = true := by
          intro k
          rw [getElem!_def]
          split
          · rename_i x hx
            rw [← hzero] at hx
            split at hx
            · simp at hx
            · exact hz3 x (List.mem_iff_getElem?.2 ⟨k, by simpa using hx⟩)
          · rfl
        have hc0 : CellsRel w g (List.replicate (n * sz) .junk) ((Array.range (n * sz)).map (zero[· % zero.size]!)) := by
          refine ⟨by simp, fun v hv => ?_, fun j u v hu hv => ?_⟩
          · simp only [Array.toList_map, List.mem_map] at hv
            obtain ⟨k, _, rfl⟩ := hv
            exact hzc _
          · rw [List.getElem?_replicate] at hu
            split at hu
            · cases hu; exact .junk _ _
            · cases hu
        have hlen : (parts.toList.map (fun p => (p.1, ev e p.2))).length = n := by
          have := congrArg List.length hq
          simpa using this
        have hfill := aFill_seq ((List.range n).map fun k => (k * sz, sz)) sz (parts.toList.map fun p => (p.1, ev e p.2)) 0 [] (by simp) (by rw [hlen]; exact hq) hqs (fun i _ hi => by
          rw [hlen] at hi
          rw [List.getElem?_map, List.getElem?_range (by omega)]
          rfl)
        rw [hlen] at hfill
        simp only [List.nil_append] at hfill
        obtain ⟨arr, h1, h2⟩ := aFill_ok (w := w) (g := g) ((List.range n).map fun k => (k * sz, sz)) (fun k => some (k * sz, sz)) (fun i p hp => by
          rw [List.getElem?_map] at hp
          obtain ⟨a, ha, rfl⟩ := Option.map_eq_some_iff.1 hp
          obtain ⟨hlt, he⟩ := List.getElem?_eq_some_iff.1 ha
          simp at he
          rw [he]) parts.toList e ρ _ _ _ hc0 (fun p hp => hr p.2 (by rw [ho]; simp only [Op.operands]; exact List.mem_map.2 ⟨p, hp, rfl⟩)) hfill
        have hsol : ∀ x ∈ (parts.toList.map fun p => (p.1, ev e p.2)).map (·.2), x.solid = true ∧ x.cells.length = sz := fun x hx => by
          obtain ⟨q, hq, rfl⟩ := List.mem_map.1 hx
          exact hqs q hq
        have h3 := h2.ro
        rw [← flat_ro _ (fun x hx => (hsol x hx).1)] at h3
        have hlen2 : (((parts.toList.map fun p => (p.1, ev e p.2)).map (·.2)).map AV.ro).length = n := by rw [List.length_map, List.length_map]; exact hlen
        have hmx : n ≤ maxLen := by
          have : n ≤ n * sz := Nat.le_mul_of_pos_right _ hsz
          unfold maxLen; omega
        obtain ⟨hw', hevo⟩ := hw.alloc_stab (.cells arr el) arr.size
        have hrel := new_slice (w := w) (g := g) .full (.inr rfl) h3 (sz := sz) (fun x hx => by
          obtain ⟨y, hy, rfl⟩ := List.mem_map.1 hx
          rw [ro_length y (hsol y hy).1]
          exact (hsol y hy).2) (by rw [hlen2]; exact hmx) el
        refine ⟨_, _, _, ?_, hw', hrel, hevo⟩
        rw [hlen2]
        have h1' : Instr.fill (fun k => some (k * sz, sz)) ((Array.range (n * sz)).map (zero[· % zero.size]!)) ((parts.map fun (i, x) => (i, ρ x)).toList) = some arr := by
          rw [← h1]
          simp
        unfold execOp
        simp only [ho, Instr.buildSlice, Sem.run_bind, run_underlying hu, Result.andThen_ok, run_sizeOf hse]
        have hnn : ¬ n * sz > 2 ^ 24 := by omega
        simp only [if_neg hnn]
        by_cases h0 : n * sz = 0
        · rw [if_pos h0] at hzero
          subst hzero
          simp only [if_pos h0, Sem.run_bind, Sem.run_pure, Result.andThen_ok, h1', newRow, newObj, Sem.run]
          rfl
        · rw [if_neg h0] at hzero
          subst hzero
          have hzv : (zeroValue el).run P w = .ok zv w := by simp [zeroValue, typeInfo, hz1, hz2]
          simp only [if_neg h0, Sem.run_bind, hzv, Sem.run_pure, Result.andThen_ok, h1', newRow, newObj, Sem.run]
          rfl
      · cases h
    · cases h
end
end Go.Proofs.Ytknbnhmenohacaa.Pe
