/- Appending, on plain values. Nothing of the program. -/
import Derived.Test.YtknbnhmenohacaaPeH
import Derived.Lib.AppendStr
namespace Go.Proofs.Ytknbnhmenohacaa.Pe
set_option linter.unusedSectionVars false
set_option linter.unusedVariables false
set_option linter.unusedSimpArgs false
open Go Go.RowKit
variable [Tab]
/-- what is known of a slice type for appending: its element's number, cells, bytes -/
def appOf (P : Program) (t : TypeId) : Option (TypeId × Nat × Nat) :=
  match P.underlying t with
  | some (.slice e) => match P.info? e with
    | some i => match i.zero with
      | some z => if z.cells.size = i.size ∧ 0 < i.size then some (e, i.size, i.bytes) else none
      | none => none
    | none => none
  | _ => none
theorem appOf_spec {P : Program} {t e sz by_ : Nat} (h : appOf P t = some (e, sz, by_)) : P.underlying t = some (.slice e) ∧ 0 < sz ∧ ∃ i z, P.info? e = some i ∧ i.zero = some z ∧ i.size = sz ∧ i.bytes = by_ ∧ z.cells.size = sz := by
  unfold appOf at h
  split at h
  · rename_i e' hu
    split at h
    · rename_i i hi
      split at h
      · rename_i z hz
        split at h
        · rename_i hc
          simp only [Option.some.injEq, Prod.mk.injEq] at h
          obtain ⟨rfl, rfl, rfl⟩ := h
          exact ⟨hu, hc.2, i, z, hi, hz, rfl, rfl, hc.1⟩
        · cases h
      · cases h
    · cases h
  · cases h
section
variable {P : Program} {w : World} {g : Gh} {S : Store}
theorem WF.draw (h : WF w g S) (n : Nat) : WF { w with drawn := n } g S := by
  refine ⟨h.nid, fun l o hl => ?_, h.disj, h.lt, h.tab.le (Evo.draw w g n).toLe⟩
  exact (h.obj l o hl).keep (Evo.draw w g n).toLe rfl rfl rfl rfl rfl (fun _ _ => rfl) (fun _ _ => rfl)
/-- what is appended -/
structure Src (P : Program) (w : World) (u : TypeId) (x : Value) (sz m : Nat) (us : List Value) : Prop where
  len : (Builtin.lenOf x).run P w = .ok m w
  ty : ∃ d, P.underlying u = some d ∧ ∀ k, d ≠ .int k
  first : (Builtin.firstCells sz m x).run P w = .ok us.toArray w
  firstd : (Builtin.firstCells sz m x).run P w.drew = .ok us.toArray w.drew
  size : us.length = m * sz
  one : ∀ v ∈ us, v.oneCell' = true
theorem app_grow {t u ty e : TypeId} {i : TypeInfo} {z : Value} (ht : P.underlying t = some (.slice e)) (hi : P.info? e = some i) (hz : i.zero = some z) {x : Value} {m : Nat} {us : List Value} (hs : Src P w u x i.size m us)
    {base : Option Addr} {n c : Nat} {olds : List Value} (holds : (Builtin.firstCells i.size n (.slice base n c)).run P w.drew = .ok olds.toArray w.drew)
    (hg : c < n + m) (h63 : n + m ≤ 9223372036854775807) (hfit : Builtin.nextslicecap (n + m) c * i.bytes ≤ 281474976710656) :
    (Builtin.append_ #[t, u] ty #[.slice base n c, x]).run P w =
      .ok (.slice (some ⟨w.heap.size, 0, none⟩) (n + m) (grownCap w (n + m) c e))
        (w.drew.alloc (.cells (olds.toArray ++ us.toArray ++ Builtin.zeroCells z.cells (grownCap w (n + m) c e - (n + m))) e)) := by
  obtain ⟨d, hu, hd⟩ := hs.ty
  have hn : ¬ (n + m ≤ c) := by omega
  have h63' : ¬ (9223372036854775807 < ((n : Int) + (m : Int))) := by omega
  have h48' : ¬ (281474976710656 < Builtin.nextslicecap (n + m) c * i.bytes) := by omega
  have hm : (match d with | .int _ => true | _ => false) = false := by cases d <;> first | rfl | exact absurd rfl (hd _)
  have hf := hs.firstd
  have hl := hs.len
  simp only [Builtin.append_, List.getElem?_toArray, List.getElem?_cons_zero, List.getElem?_cons_succ, Sem.run_bind, run_underlying ht, run_underlying hu, Result.andThen_ok, sizeOf, typeInfo, run_program, hi, Sem.run_pure, hm, Bool.false_eq_true, if_false, hl, hn, Bool.not_false, if_true, or_false, false_or]
  simp [h63', h48', Question.forced, zeroValue, typeInfo, hi, hz, holds, hf, newRow, grownCap]
  first | rfl | (congr 2; apply Array.ext'; simp [List.append_assoc])
theorem app_room {t u ty e : TypeId} {i : TypeInfo} (ht : P.underlying t = some (.slice e)) (hi : P.info? e = some i) {x : Value} {m : Nat} {us : List Value} (hs : Src P w u x i.size m us)
    {b n c : Nat} {cur : Array Value} {fr : Nat × Nat} (hb : w.heap[b]? = some (.cells cur e fr)) (hfr : fr.2 ≤ fr.1 ∨ cur.size ≤ fr.1) (hroom : n + m ≤ c) (hfit : n * i.size + us.length ≤ cur.size) :
    (Builtin.append_ #[t, u] ty #[.slice (some ⟨b, 0, none⟩) n c, x]).run P w =
      .ok (.slice (some ⟨b, 0, none⟩) (n + m) c) (w.setRow b (cur.toList.take (n * i.size) ++ us ++ cur.toList.drop (n * i.size + us.length)).toArray) := by
  obtain ⟨d, hu, hd⟩ := hs.ty
  have hm : (match d with | .int _ => true | _ => false) = false := by cases d <;> first | rfl | exact absurd rfl (hd _)
  have hst := storeCells_fr (P := P) b (n * i.size) e fr us 0 cur w hb hfr (by simpa using hfit) hs.one
  simp only [Nat.add_zero] at hst
  have hf := hs.first
  have hl := hs.len
  simp only [Builtin.append_, List.getElem?_toArray, List.getElem?_cons_zero, List.getElem?_cons_succ, Sem.run_bind, run_underlying ht, run_underlying hu, Result.andThen_ok, sizeOf, typeInfo, run_program, hi, Sem.run_pure, hm, Bool.false_eq_true, if_false, hl, hroom, Bool.not_false, if_true, hf, add_lit', Nat.zero_add, hst]
theorem app_zero {t u ty e : TypeId} {i : TypeInfo} (ht : P.underlying t = some (.slice e)) (hi : P.info? e = some i) {x : Value} (hs : Src P w u x i.size 0 [])
    {base : Option Addr} {n c : Nat} (hc : n ≤ c) : (Builtin.append_ #[t, u] ty #[.slice base n c, x]).run P w = .ok (.slice base n c) w := by
  obtain ⟨d, hu, hd⟩ := hs.ty
  have hm : (match d with | .int _ => true | _ => false) = false := by cases d <;> first | rfl | exact absurd rfl (hd _)
  have hf := hs.first
  have hl := hs.len
  have hroom : n + 0 ≤ c := hc
  simp only [Builtin.append_, List.getElem?_toArray, List.getElem?_cons_zero, List.getElem?_cons_succ, Sem.run_bind, run_underlying ht, run_underlying hu, Result.andThen_ok, sizeOf, typeInfo, run_program, hi, Sem.run_pure, hm, Bool.false_eq_true, if_false, hl, hroom, Bool.not_false, if_true, hf]
  cases base <;> simp [storeCells]
/- the source's plain value -/
def srcOf (P : Program) (u : TypeId) (y : AV) : Option (List AV) :=
  match y with
  | .sl _ ys => match sleOf P u with
    | some _ => some ys
    | none => none
  | .st l => if kdOf P u = .str then some (l.map u8) else none
  | _ => none
theorem src_ok {u sz : Nat} {y : AV} {cy : Value} {ys : List AV} (h : srcOf P u y = some ys) (hy : Rel w g y cy) (hall : allSz sz ys = true) :
    ∃ us : List Value, Src P w u cy sz ys.length us ∧ CellsRel w g.noid (flat ys) us.toArray := by
  have hsz := allSz_spec hall
  unfold srcOf at h
  split at h
  · rename_i m ys'
    split at h
    · rename_i p hs
      cases h
      obtain ⟨e', sz', ag⟩ := p
      obtain ⟨hu, hse⟩ := sleOf_spec hs
      cases hy with
      | sl _ _ _ A c sz0 cu hc hcm hsz0 hA h1 hr hm =>
        have hfl := flat_length hsz
        refine ⟨(List.range (flat ys).length).map cu, ?_, ?_⟩
        · have hcells : ∀ (w' : World), (∀ p, w'.cell? p = w.cell? p) → (Builtin.firstCells sz ys.length (.slice A ys.length c)).run P w' = .ok ((List.range (flat ys).length).map cu).toArray w' := by
            intro w' hw'
            rcases Nat.eq_zero_or_pos ys.length with h0 | h0
            · have : ys = [] := List.eq_nil_of_length_eq_zero h0
              subst this
              cases A with
              | none => simp [Builtin.firstCells, flat]
              | some a => simp [Builtin.firstCells, flat, loadCells, loadCellsFrom]
            · obtain ⟨b, o, rfl, hcell⟩ := hA h0
              have := run_firstCells_some (P := P) w' sz ys.length ⟨b, o, none⟩ ys.length c ((List.range (flat ys).length).map cu) (by simp [hfl]) (fun j v hv => by
                rw [List.getElem?_map] at hv
                obtain ⟨k, hk, rfl⟩ := Option.map_eq_some_iff.1 hv
                obtain ⟨hlt, he⟩ := List.getElem?_eq_some_iff.1 hk
                simp at he hlt
                subst he
                rw [Addr.add_lit, hw', (hcell j hlt).2])
              exact this
          refine ⟨by simp [Builtin.lenOf], ⟨_, hu, by simp⟩, hcells w (fun _ => rfl), hcells w.drew (fun _ => rfl), by simp [hfl], fun v hv => ?_⟩
          simp only [List.mem_map, List.mem_range] at hv
          obtain ⟨j, hj, rfl⟩ := hv
          exact h1 j hj
        · refine ⟨by simp, fun v hv => ?_, fun j u v hu hv => ?_⟩
          · simp only [List.mem_map, List.mem_range] at hv
            obtain ⟨j, hj, rfl⟩ := hv
            exact h1 j hj
          · have hj := (List.getElem?_eq_some_iff.1 hu).1
            simp [List.getElem?_range hj] at hv
            rw [← hv]
            exact hr j u hu
    · cases h
  · rename_i l
    split at h
    · rename_i hk
      cases h
      cases hy
      have h1sz : sz = 1 ∨ l = [] := by
        cases l with
        | nil => exact .inr rfl
        | cons b l => exact .inl (hsz (u8 b) (by simp)).symm
      have hfirst : ∀ w' : World, (Builtin.firstCells sz (l.map u8).length (.string ⟨l.toArray⟩)).run P w' = .ok (l.map w8).toArray w' := by
        intro w'
        have := Go.Lib.run_firstCells_string (P := P) w' sz ⟨l.toArray⟩
        have hs : (⟨l.toArray⟩ : ByteArray).size = l.length := by simp [ByteArray.size]
        rw [hs] at this
        rw [List.length_map, this]
        rfl
      refine ⟨l.map w8, ⟨?_, ⟨_, kd_str hk, by simp⟩, hfirst w, hfirst w.drew, ?_, oneCell_map8 l⟩, ?_⟩
      · have hs : (⟨l.toArray⟩ : ByteArray).size = l.length := by simp [ByteArray.size]
        simp only [Builtin.lenOf, Sem.run_pure, hs, List.length_map]
      · rcases h1sz with rfl | rfl <;> simp
      · rw [flat_u8]
        refine ⟨by simp, oneCell_map8 l, fun j u v hu hv => ?_⟩
        rw [List.getElem?_map] at hu
        obtain ⟨b, hb, rfl⟩ := Option.map_eq_some_iff.1 hu
        simp [hb] at hv
        rw [← hv]
        exact .it _ _ _
    · cases h
  · cases h
end
end Go.Proofs.Ytknbnhmenohacaa.Pe
