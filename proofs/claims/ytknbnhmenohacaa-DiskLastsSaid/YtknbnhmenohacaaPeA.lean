/- Operations that leave memory alone, on plain values: what they yield, and that the model's operations yield it. Nothing of the program. -/
import Derived.Test.YtknbnhmenohacaaPeV
import Derived.Deep.Draws
namespace Go.Proofs.Ytknbnhmenohacaa.Pe
set_option linter.unusedSectionVars false
set_option linter.unusedVariables false
set_option linter.unusedSimpArgs false
open Go Go.RowKit
abbrev Env := Nat → AV
def upd (e : Env) (d : Nat) (v : AV) : Env := fun t => if t = d then v else e t
def put (e : Env) (d : Option Nat) (v : AV) : Env := match d with | some d => upd e d v | none => e
theorem upd_same (e : Env) (d : Nat) (v : AV) : upd e d v d = v := if_pos rfl
theorem upd_ne (e : Env) {d t : Nat} (h : t ≠ d) (v : AV) : upd e d v t = e t := if_neg h
/-- a value written in the program's text, of one cell -/
def cst1 : Value → AV
  | .bool b => .bo b
  | .int k n => .it k n
  | .string s => .st s.data.toList
  | .slice none 0 0 => .sl .full []
  | .agg _ => .junk
  | .tuple _ => .junk
  | v => .ot v
def cst : Value → AV
  | .agg arr => if arr.toList.all (·.oneCell') then .agg (arr.toList.map cst1) else .junk
  | v => cst1 v
def ev (e : Env) : Operand → AV
  | .tmp t => e t
  | .const v => cst v
  | .global g => .ot (.pointer (some ⟨g, 0, none⟩))
  | .func f => .fn (.func f) [] []
theorem cst1_ok (w : World) (g : Gh) (v : Value) : Rel w g (cst1 v) v := by
  unfold cst1
  split
  · exact .bo g _
  · exact .it g _ _
  · exact .st g _
  · exact .sl g .full [] none 0 0 (fun _ => default) (Nat.le_refl _) (by simp) (by simp) (by simp) (by simp [flat]) (by simp [flat]) rfl
  · exact .junk g _
  · exact .junk g _
  · exact .ot g _ (by cases v <;> simp_all [Value.oneCell'])
theorem cst_ok (w : World) (g : Gh) (v : Value) : Rel w g (cst v) v := by
  unfold cst
  split
  · rename_i arr
    split
    · rename_i h
      refine .agg g _ arr (by simp) (fun v hv => by simpa using (List.all_eq_true.1 h) v hv) fun j u v hu hv => ?_
      rw [List.getElem?_map] at hu
      have : arr.toList[j]? = some v := by simpa using hv
      rw [this] at hu
      simp only [Option.map_some, Option.some.injEq] at hu
      subst hu
      exact cst1_ok w g v
    · exact .junk g _
  · exact cst1_ok w g v
def ERel (w : World) (g : Gh) (e : Env) (a : Act) : Prop := ∀ t, Rel w g (e t) (a.tmps.getD t undef)
theorem ev_ok {w : World} {g : Gh} {e : Env} {a : Act} (h : ERel w g e a) (x : Operand) : Rel w g (ev e x) (a.eval x) := by
  cases x with
  | tmp t => exact h t
  | const v => exact cst_ok w g v
  | global n => exact .ot g _ rfl
  | func f => exact .fn g (.func f) [] [] #[] #[] rfl rfl (by simp) (by simp)

/- what is known of types -/
def szOf (P : Program) (t : TypeId) : Option (Nat × Bool) :=
  match P.info? t, P.underlying t with
  | some i, some d => some (i.size, aggD d)
  | _, _ => none
def fldOf (P : Program) (t f : Nat) : Option (Nat × Nat × Bool) :=
  match P.underlying t with
  | some (.struct fs) => match fs[f]? with
    | some fd => (szOf P fd.type).map fun s => (fd.offset, s.1, s.2)
    | none => none
  | _ => none
def sleOf (P : Program) (t : TypeId) : Option (TypeId × Nat × Bool) :=
  match P.underlying t with
  | some (.slice e) => (szOf P e).map fun s => (e, s.1, s.2)
  | _ => none
def areOf (P : Program) (t : TypeId) : Option (Nat × Nat × Bool) :=
  match P.underlying t with
  | some (.array n e) => (szOf P e).map fun s => (n, s.1, s.2)
  | _ => none
theorem szOf_spec {P : Program} {t : TypeId} {sz : Nat} {ag : Bool} (h : szOf P t = some (sz, ag)) : ∃ i d, P.info? t = some i ∧ P.underlying t = some d ∧ i.size = sz ∧ aggD d = ag := by
  unfold szOf at h
  split at h
  · rename_i i d h1 h2
    simp only [Option.some.injEq, Prod.mk.injEq] at h
    exact ⟨i, d, h1, h2, h.1, h.2⟩
  · cases h
theorem run_sizeOf {P : Program} {t : TypeId} {sz : Nat} {ag : Bool} (h : szOf P t = some (sz, ag)) (w : World) : (sizeOf t).run P w = .ok sz w := by
  obtain ⟨i, d, h1, h2, h3, h4⟩ := szOf_spec h
  simp [sizeOf, typeInfo, h1, h3]
theorem run_isAgg {P : Program} {t : TypeId} {sz : Nat} {ag : Bool} (h : szOf P t = some (sz, ag)) (w : World) : (Go.isAgg t).run P w = .ok ag w := by
  obtain ⟨i, d, h1, h2, h3, rfl⟩ := szOf_spec h
  unfold Go.isAgg
  rw [Sem.run_bind, run_underlying h2 w]
  cases d <;> simp_all [aggD]
theorem fldOf_spec {P : Program} {t f o sz : Nat} {ag : Bool} (h : fldOf P t f = some (o, sz, ag)) : ∃ fs fd, P.underlying t = some (.struct fs) ∧ fs[f]? = some fd ∧ fd.offset = o ∧ szOf P fd.type = some (sz, ag) := by
  unfold fldOf at h
  split at h
  · rename_i fs h1
    split at h
    · rename_i fd h2
      obtain ⟨⟨a, b⟩, h3, h4⟩ := Option.map_eq_some_iff.1 h
      simp only [Prod.mk.injEq] at h4
      exact ⟨fs, fd, h1, h2, h4.1, by rw [h3, h4.2.1, h4.2.2]⟩
    · cases h
  · cases h
theorem sleOf_spec {P : Program} {t e sz : Nat} {ag : Bool} (h : sleOf P t = some (e, sz, ag)) : P.underlying t = some (.slice e) ∧ szOf P e = some (sz, ag) := by
  unfold sleOf at h
  split at h
  · rename_i e' h1
    obtain ⟨⟨a, b⟩, h3, h4⟩ := Option.map_eq_some_iff.1 h
    simp only [Prod.mk.injEq] at h4
    obtain ⟨rfl, rfl, rfl⟩ := h4
    exact ⟨h1, h3⟩
  · cases h
theorem areOf_spec {P : Program} {t n sz : Nat} {ag : Bool} (h : areOf P t = some (n, sz, ag)) : ∃ e, P.underlying t = some (.array n e) ∧ szOf P e = some (sz, ag) := by
  unfold areOf at h
  split at h
  · rename_i n' e' h1
    obtain ⟨⟨a, b⟩, h3, h4⟩ := Option.map_eq_some_iff.1 h
    simp only [Prod.mk.injEq] at h4
    obtain ⟨rfl, rfl, rfl⟩ := h4
    exact ⟨e', h1, h3⟩
  · cases h

/- parts of aggregates -/
def apart (cs : List AV) (off sz : Nat) (ag : Bool) : Option AV :=
  if ag then (if off = 0 ∧ sz = cs.length then some (.agg cs) else if off + sz ≤ cs.length then some (.agg ((cs.drop off).take sz)) else none) else cs[off]?
theorem apart_part {w : World} {g : Gh} {cs : List AV} {arr : Array Value} (hn : arr.size = cs.length) (h1 : ∀ v ∈ arr.toList, v.oneCell' = true)
    (hr : ∀ (j : Nat) u v, cs[j]? = some u → arr[j]? = some v → Rel w g u v) {off sz : Nat} (h : off + sz ≤ cs.length) : Rel w g (.agg ((cs.drop off).take sz)) (.agg (arr.extract off (off + sz))) := by
  refine .agg g _ _ ?_ ?_ ?_
  · simp; omega
  · intro v hv
    refine h1 v ?_
    simp only [Array.toList_extract, List.extract_eq_take_drop] at hv
    exact List.mem_of_mem_drop (List.mem_of_mem_take hv)
  · intro j u v hu hv
    rw [List.getElem?_take] at hu
    split at hu
    · rw [List.getElem?_drop] at hu
      refine hr (off + j) u v hu ?_
      rw [Array.getElem?_extract] at hv
      split at hv
      · exact hv
      · cases hv
    · cases hu
theorem apart_agg {w : World} {g : Gh} {cs : List AV} {arr : Array Value} (hn : arr.size = cs.length) (h1 : ∀ v ∈ arr.toList, v.oneCell' = true)
    (hr : ∀ (j : Nat) u v, cs[j]? = some u → arr[j]? = some v → Rel w g u v) {off sz : Nat} {v : AV} (h : apart cs off sz true = some v) : off + sz ≤ arr.size ∧ Rel w g v (.agg (arr.extract off (off + sz))) := by
  unfold apart at h
  simp only [if_true] at h
  split at h
  · rename_i h0
    obtain ⟨rfl, rfl⟩ := h0
    cases h
    have := apart_part hn h1 hr (off := 0) (sz := cs.length) (by omega)
    refine ⟨by omega, ?_⟩
    rw [List.drop_zero, List.take_length] at this
    exact this
  · split at h
    · rename_i hle
      cases h
      exact ⟨by omega, apart_part hn h1 hr hle⟩
    · cases h
theorem apart_ok {P : Program} {w : World} {g : Gh} {cs : List AV} {arr : Array Value} (hn : arr.size = cs.length) (h1 : ∀ v ∈ arr.toList, v.oneCell' = true)
    (hr : ∀ (j : Nat) u v, cs[j]? = some u → arr[j]? = some v → Rel w g u v) {t off sz : Nat} {ag : Bool} (ht : szOf P t = some (sz, ag)) {v : AV} (h : apart cs off sz ag = some v) :
    ∃ cv, (part t arr off).run P w = .ok cv w ∧ Rel w g v cv := by
  cases ag with
  | true => exact ⟨.agg (arr.extract off (off + sz)), by simp [part, run_isAgg ht, run_sizeOf ht], (apart_agg hn h1 hr h).2⟩
  | false =>
    simp only [apart, Bool.false_eq_true, if_false] at h
    have hlt : off < cs.length := (List.getElem?_eq_some_iff.1 h).1
    have hv : arr[off]? = some arr[off] := Array.getElem?_eq_getElem (by omega)
    exact ⟨arr[off], by simp [part, run_isAgg ht, hv], hr off v _ h hv⟩
end Go.Proofs.Ytknbnhmenohacaa.Pe
