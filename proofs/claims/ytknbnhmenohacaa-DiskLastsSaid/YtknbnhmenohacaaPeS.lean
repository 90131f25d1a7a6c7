/- A law's row out of a contract on plain values: the world as the call finds it, its arguments as plain values, what is left behind. -/
import Derived.Test.YtknbnhmenohacaaPeB2
import Derived.Below
import Derived.ChangeSame
import Derived.ProofKit
import Derived.OpenShut
import Derived.ShutString
import Derived.Deep.Strs
import Derived.SizedLaws
namespace Go.Proofs.Ytknbnhmenohacaa.Pe
set_option linter.unusedSectionVars false
set_option linter.unusedVariables false
set_option linter.unusedSimpArgs false
open Go Go.RowKit Go.WideShapes Go.ChangeShapes
def rowLen (W : World) (b : Nat) : Nat :=
  match W.heap[b]? with
  | some (.cells cs _ _) => cs.size
  | _ => 0
/-- the ghost of the world in which a law begins: nothing in it is the law's own -/
def g0 (W : World) : Gh := ⟨rowLen W, fun _ => 0, fun _ _ => False, 0, fun _ => false, fun _ => 0, fun _ => 0⟩
theorem lt_rowLen {W : World} {b o : Nat} {v : Value} (h : W.cell? ⟨b, o, none⟩ = some v) : o < rowLen W b := by
  unfold World.cell? at h
  unfold rowLen
  cases hb : W.heap[b]? with
  | none => simp [hb] at h
  | some ob =>
    cases ob with
    | cells cs t fr =>
      simp only [hb] at h ⊢
      by_cases hlt : o < cs.size
      · exact hlt
      · have hn : cs[o]? = none := Array.getElem?_eq_none (by omega)
        simp [hn] at h
    | _ => simp [hb] at h
theorem wf0 [Tab] {W : World} (h : ∀ b i v, Tab.T b i = some v → W.cell? ⟨b, i, none⟩ = some v) : WF W (g0 W) [] :=
  ⟨rfl, fun l o hl => by simp at hl, fun l l' b hl => absurd hl (Nat.not_lt_zero _), fun l b hl => absurd hl (Nat.not_lt_zero _), fun b i v hv => ⟨lt_rowLen (h b i v hv), h b i v hv⟩⟩
theorem evo_below {W W' : World} {g' : Gh} (h : Evo W (g0 W) W' g') : Below W.heap.size W W' :=
  ⟨h.os, h.tape, h.output, h.size, fun b hb => h.old b hb fun l hl => absurd hl (Nat.not_lt_zero _)⟩
theorem law_run [Tab] {P : Program} {f : FuncId} {args : List AV} {S' : Store} {b : Bool} (h : AC P f args [] (.bo b) S') {W : World} (hT : ∀ b i v, Tab.T b i = some v → W.cell? ⟨b, i, none⟩ = some v) {cargs : Array Value} (ha : LRel W (g0 W) args cargs) :
    Calls P f cargs W fun e W' => e = .returned (.bool b) ∧ Below W.heap.size W W' :=
  (h.run W (g0 W) cargs (wf0 hT) ha).mono fun e W' ⟨cv, g', he, _, hr, hev⟩ => by
    cases hr
    exact ⟨he, evo_below hev⟩
theorem lrel0 {w : World} {g : Gh} : LRel w g [] #[] := ⟨rfl, fun j u v hu => by simp at hu⟩
theorem lrelL {w : World} {g : Gh} {us : List AV} {vs : List Value} {u : AV} {v : Value} (h : Rel w g u v) (hs : LRel w g us vs.toArray) : LRel w g (u :: us) (v :: vs).toArray := by
  refine ⟨by have := hs.1; simp at this; simp [this], fun j a b ha hb => ?_⟩
  cases j with
  | zero => simp at ha hb; subst ha hb; exact h
  | succ j => exact hs.2 j a b (by simpa using ha) (by simpa using hb)
theorem rel_string (W : World) (g : Gh) (x : ByteArray) : Rel W g (.st x.data.toList) (.string x) := by
  have := Rel.st (w := W) g x.data.toList
  rwa [show (⟨x.data.toList.toArray⟩ : ByteArray) = x from by rw [Array.toArray_toList]] at this
theorem flat_st (xs : List (List UInt8)) : flat (xs.map .st) = xs.map .st := by
  induction xs with
  | nil => rfl
  | cons a l ih => simp only [List.map_cons, flat, List.flatMap_cons] at ih ⊢; rw [ih]; rfl
theorem rel_strs {W : World} {a : Addr} {ln cp m : Nat} {Sx : Nat → ByteArray} (hm : ln ≤ m) (hle : ln ≤ cp) (hcm : cp ≤ maxLen) (hcell : ∀ i, i < m → W.cell? (a.add i) = some (.string (Sx i))) :
    Rel W (g0 W) (.sl .ro (((List.range ln).map fun i => (Sx i).data.toList).map .st)) (.slice (some a) ln cp) := by
  have hl : (((List.range ln).map fun i => (Sx i).data.toList).map AV.st).length = ln := by simp
  have hr : ∀ (g : Gh) (j : Nat) (u : AV), (flat (((List.range ln).map fun i => (Sx i).data.toList).map AV.st))[j]? = some u → j < ln ∧ Rel W g u (.string (Sx j)) := by
    intro g j u hu
    rw [flat_st, List.getElem?_map, List.getElem?_map] at hu
    by_cases hj : j < ln
    · rw [List.getElem?_range hj] at hu
      simp only [Option.map_some, Option.some.injEq] at hu
      subst hu
      exact ⟨hj, rel_string W g (Sx j)⟩
    · rw [List.getElem?_eq_none (by simp; omega)] at hu
      cases hu
  have h := Rel.sl (w := W) (g0 W) .ro (((List.range ln).map fun i => (Sx i).data.toList).map .st) (some a) cp 1 (fun j => .string (Sx j)) (by rw [hl]; exact hle) hcm
    (fun e he => by obtain ⟨x, _, rfl⟩ := List.mem_map.1 he; rfl) (fun h0 => ?_) (fun j _ => rfl) (fun j u hu => (hr _ j u hu).2) trivial
  · rw [hl] at h; exact h
  · rw [hl] at h0
    obtain ⟨b, off, spot⟩ := a
    have hspot : spot = none := by simpa [Addr.add] using World.cell?_spot (hcell 0 (by omega))
    subst hspot
    refine ⟨b, off, rfl, fun j hj => ?_⟩
    rw [flat_st, List.length_map, List.length_map, List.length_range] at hj
    have := hcell j (by omega)
    rw [Addr.add_lit] at this
    exact ⟨lt_rowLen this, this⟩
theorem rel_nil (W : World) (g : Gh) : Rel W g (.sl .ro []) (.slice none 0 0) :=
  .sl g .ro [] none 0 0 (fun _ => .bool false) (Nat.le_refl _) (Nat.zero_le _) (fun e he => by simp at he) (fun h => absurd h (by simp)) (fun j hj => by simp [flat] at hj) (fun j u hu => by simp [flat] at hu) trivial
/-- a []string argument as a plain value -/
theorem open_sls {H : Type} {enc : TypeId × Value → H} {P : Program} {W : World} {t e : TypeId} {d : DataW H} {p : List MemPlace} {A : Option Addr} {ln cp : Nat} {sp : Nat → Bool} {b : Nat} {held : Bool}
    (ht : P.underlying t = some (.slice e)) (he : P.underlying e = some .string) (hc : P.cellsOf e = 1) (h : DataW.Trod enc P W b sp held t (Value.slice A ln cp) d p) :
    ∃ xs : List (List UInt8), Rel W (g0 W) (.sl .ro (xs.map .st)) (.slice A ln cp) := by
  obtain ⟨fuel, hf⟩ := h
  rcases Go.Deep.open_strs ht he hc hf with ⟨hcs, hx⟩ | ⟨a, len', cap', m, Sx, hcs, hba, hle, hmx, hall, hx, hcell⟩
  · simp [Value.cells] at hcs
    obtain ⟨rfl, rfl, rfl⟩ := hcs
    exact ⟨[], rel_nil W _⟩
  · simp [Value.cells] at hcs
    obtain ⟨rfl, rfl, rfl⟩ := hcs
    exact ⟨_, rel_strs (m := m) (by rw [hall]; split <;> omega) hle hmx fun i hi => (hcell i hi).1⟩
end Go.Proofs.Ytknbnhmenohacaa.Pe
