/- Several texts in one. -/
import Derived.Test.YtjicccjpooahoaaPeW4
import Derived.Below
import Derived.ChangeSame
import Derived.ProofKit
import Derived.OpenShut
import Derived.ShutString
import Derived.Deep.Strs
import Derived.SizedLaws
import Derived.Deep.Slices
import Derived.ChangeArms
set_option linter.unusedSectionVars false
set_option linter.unusedVariables false
set_option linter.unusedSimpArgs false
namespace Go.Proofs.Ytjicccjpooahoaa.Pe
open Go Go.RowKit Go.WideShapes Go.ChangeShapes
def rowLen (W : World) (b : Nat) : Nat :=
 match W.heap[b]? with
 | some (.cells cs _ _) => cs.size
 | _ => 0
def g0 (W : World) : Gh := ⟨rowLen W, fun _ => 0, fun _ _ => False, 0, fun _ => false, fun _ => 0, fun _ => 0⟩
theorem lt_rowLen {W : World} {b o : Nat} {v : Value} (h : W.cell? ⟨b, o, none⟩ = some v) : o < rowLen W b := by
 unfold World.cell? at h
 unfold rowLen
 cases hb : W.heap[b]? with
 | none => simp [hb] at h
 | some ob =>
  cases ob with
  | cells cs t fr =>
   simp only [hb] at h ⊢
   by_cases hlt : o < cs.size
   ·exact hlt
   ·have hn : cs[o]? = none := Array.getElem?_eq_none (by omega)
    simp [hn] at h
  | _ => simp [hb] at h
theorem wf0 [Tab] {W : World} (h : ∀ b i v, Tab.T b i = some v → W.cell? ⟨b, i, none⟩ = some v) : WF W (g0 W) [] :=
 ⟨rfl, fun l o hl => by simp at hl, fun l l' b hl => absurd hl (Nat.not_lt_zero _), fun l b hl => absurd hl (Nat.not_lt_zero _), fun b i v hv => ⟨lt_rowLen (h b i v hv), h b i v hv⟩⟩
theorem evo_below {W W' : World} {g' : Gh} (h : Evo W (g0 W) W' g') : Below W.heap.size W W' :=
 ⟨h.os, h.tape, h.output, h.size, fun b hb => h.old b hb fun l hl => absurd hl (Nat.not_lt_zero _)⟩
theorem law_run [Tab] {P : Program} {f : FuncId} {args : List AV} {S' : Store} {b : Bool} (h : AC P f args [] (.bo b) S') {W : World} (hT : ∀ b i v, Tab.T b i = some v → W.cell? ⟨b, i, none⟩ = some v) {cargs : Array Value} (ha : LRel W (g0 W) args cargs) :
  Calls P f cargs W fun e W' => e = .returned (.bool b) ∧ Below W.heap.size W W' :=
 (h.run W (g0 W) cargs (wf0 hT) ha).mono fun e W' ⟨cv, g', he, _, hr, hev⟩ => by
  cases hr
  exact ⟨he, evo_below hev⟩
theorem lrel0 {w : World} {g : Gh} : LRel w g [] #[] := ⟨rfl, fun j u v hu => by simp at hu⟩
theorem lrelL {w : World} {g : Gh} {us : List AV} {vs : List Value} {u : AV} {v : Value} (h : Rel w g u v) (hs : LRel w g us vs.toArray) : LRel w g (u :: us) (v :: vs).toArray := by
 refine ⟨by have := hs.1; simp at this; simp [this], fun j a b ha hb => ?_⟩
 cases j with
 | zero => simp at ha hb; subst ha hb; exact h
 | succ j => exact hs.2 j a b (by simpa using ha) (by simpa using hb)
theorem rel_string (W : World) (g : Gh) (x : ByteArray) : Rel W g (.st x.data.toList) (.string x) := by
 have := Rel.st (w := W) g x.data.toList
 rwa [show (⟨x.data.toList.toArray⟩ : ByteArray) = x from by rw [Array.toArray_toList]] at this
theorem flat_st (xs : List (List UInt8)) : flat (xs.map .st) = xs.map .st := by
 induction xs with
 | nil => rfl
 | cons a l ih => simp only [List.map_cons, flat, List.flatMap_cons] at ih ⊢; rw [ih]; rfl
theorem rel_strs {W : World} {a : Addr} {ln cp m : Nat} {Sx : Nat → ByteArray} (hm : ln ≤ m) (hle : ln ≤ cp) (hcm : cp ≤ maxLen) (hcell : ∀ i, i < m → W.cell? (a.add i) = some (.string (Sx i))) :
  Rel W (g0 W) (.sl .ro (((List.range ln).map fun i => (Sx i).data.toList).map .st)) (.slice (some a) ln cp) := by
 have hl : (((List.range ln).map fun i => (Sx i).data.toList).map AV.st).length = ln := by simp
 have hr : ∀ (g : Gh) (j : Nat) (u : AV), (flat (((List.range ln).map fun i => (Sx i).data.toList).map AV.st))[j]? = some u → j < ln ∧ Rel W g u (.string (Sx j)) := by
  intro g j u hu
  rw [flat_st, List.getElem?_map, List.getElem?_map] at hu
  by_cases hj : j < ln
  ·rw [List.getElem?_range hj] at hu
   simp only [Option.map_some, Option.some.injEq] at hu
   subst hu
   exact ⟨hj, rel_string W g (Sx j)⟩
  ·rw [List.getElem?_eq_none (by simp; omega)] at hu
   cases hu
 have h := Rel.sl (w := W) (g0 W) .ro (((List.range ln).map fun i => (Sx i).data.toList).map .st) (some a) cp 1 (fun j => .string (Sx j)) (by rw [hl]; exact hle) hcm
  (fun e he => by obtain ⟨x, _, rfl⟩ := List.mem_map.1 he; rfl) (fun h0 => ?_) (fun j _ => rfl) (fun j u hu => (hr _ j u hu).2) trivial
 ·rw [hl] at h; exact h
 ·rw [hl] at h0
  obtain ⟨b, off, spot⟩ := a
  have hspot : spot = none := by simpa [Addr.add] using World.cell?_spot (hcell 0 (by omega))
  subst hspot
  refine ⟨b, off, rfl, fun j hj => ?_⟩
  rw [flat_st, List.length_map, List.length_map, List.length_range] at hj
  have := hcell j (by omega)
  rw [Addr.add_lit] at this
  exact ⟨lt_rowLen this, this⟩
theorem rel_nil (W : World) (g : Gh) : Rel W g (.sl .ro []) (.slice none 0 0) :=
 .sl g .ro [] none 0 0 (fun _ => .bool false) (Nat.le_refl _) (Nat.zero_le _) (fun e he => by simp at he) (fun h => absurd h (by simp)) (fun j hj => by simp [flat] at hj) (fun j u hu => by simp [flat] at hu) trivial
theorem open_sls {H : Type} {enc : TypeId × Value → H} {P : Program} {W : World} {t e : TypeId} {d : DataW H} {p : List MemPlace} {A : Option Addr} {ln cp : Nat} {sp : Nat → Bool} {b : Nat} {held : Bool}
  (ht : P.underlying t = some (.slice e)) (he : P.underlying e = some .string) (hc : P.cellsOf e = 1) (h : DataW.Trod enc P W b sp held t (Value.slice A ln cp) d p) :
  ∃ xs : List (List UInt8), Rel W (g0 W) (.sl .ro (xs.map .st)) (.slice A ln cp) := by
 obtain ⟨fuel, hf⟩ := h
 rcases Go.Deep.open_strs ht he hc hf with ⟨hcs, hx⟩ | ⟨a, len', cap', m, Sx, hcs, hba, hle, hmx, hall, hx, hcell⟩
 ·simp [Value.cells] at hcs
  obtain ⟨rfl, rfl, rfl⟩ := hcs
  exact ⟨[], rel_nil W _⟩
 ·simp [Value.cells] at hcs
  obtain ⟨rfl, rfl, rfl⟩ := hcs
  exact ⟨_, rel_strs (m := m) (by rw [hall]; split <;> omega) hle hmx fun i hi => (hcell i hi).1⟩
end Go.Proofs.Ytjicccjpooahoaa.Pe
namespace Go.Proofs.Ytjicccjpooahoaa.Pe
open Go Go.RowKit Go.ChangeShapes
def consF (P : Program) (t : TypeId) : List Field → Nat → Bool
 | [], o => o == P.cellsOf t
 | f :: r, o => f.offset == o && consF P t r (o + P.cellsOf f.type)
def aggT (P : Program) (t : TypeId) : Bool := match P.underlying t with
 | some (.struct _) => true
 | _ => false
def fo (P : Program) : Nat → TypeId → Bool
 | 0, _ => false
 | n + 1, t => match P.underlying t with
  | some .bool => P.cellsOf t == 1
  | some .string => P.cellsOf t == 1
  | some (.int _) => P.cellsOf t == 1
  | some (.slice e) => P.cellsOf t == 1 && decide (0 < P.cellsOf e) && decide (0 < P.bytesOf e) && fo P n e
  | some (.struct fs) => consF P t fs.toList 0 && fs.toList.all fun f => fo P n f.type
  | _ => false
def el (ag : Bool) (us : List AV) : AV := if ag then .agg us else us.headD .junk
def shpF (S : TypeId → List AV → Prop) : List Field → List AV → Prop
 | [], us => us = []
 | f :: r, us => ∃ a b, us = a ++ b ∧ S f.type a ∧ shpF S r b
def shp (P : Program) (B : Nat) : Nat → TypeId → List AV → Prop
 | 0, _, _ => False
 | n + 1, t, us => match P.underlying t with
  | some .bool => ∃ b, us = [.bo b]
  | some .string => ∃ l : List UInt8, us = [.st l] ∧ l.length ≤ B
  | some (.int k) => ∃ i, us = [.it k i] ∧ (Lit.int k i).wf = true
  | some (.slice e) => ∃ es : List (List AV), us = [.sl .ro (es.map (el (aggT P e)))] ∧ (∀ x ∈ es, shp P B n e x) ∧ es.length ≤ B
  | some (.struct fs) => shpF (shp P B n) fs.toList us
  | _ => False
section
variable {P : Program}
theorem el_cells {B n : Nat} {t : TypeId} {us : List AV} (h : shp P B n t us) : (el (aggT P t) us).cells = us := by
 cases n with
 | zero => cases h
 | succ n =>
  unfold shp at h
  unfold aggT
  split at h
  ·rename_i hu; rw [hu]; obtain ⟨b, rfl⟩ := h; rfl
  ·rename_i hu; rw [hu]; obtain ⟨b, rfl, _⟩ := h; rfl
  ·rename_i hu; rw [hu]; obtain ⟨b, rfl, _⟩ := h; rfl
  ·rename_i hu; rw [hu]; obtain ⟨b, rfl, _⟩ := h; rfl
  ·rename_i hu; rw [hu]; rfl
  ·cases h
theorem CellsRel.nil (w : World) (g : Gh) : CellsRel w g [] #[] := ⟨rfl, by simp, by simp⟩
theorem CellsRel.one {w : World} {g : Gh} {u : AV} {v : Value} (h : Rel w g u v) (h1 : v.oneCell' = true) : CellsRel w g [u] #[v] := by
 refine ⟨rfl, by simpa using h1, fun j x y hx hy => ?_⟩
 match j with
 | 0 => cases hx; cases hy; exact h
 | j + 1 => simp at hx
theorem CellsRel.app {w : World} {g : Gh} {us us' : List AV} {vs vs' : List Value} (h : CellsRel w g us vs.toArray) (h' : CellsRel w g us' vs'.toArray) : CellsRel w g (us ++ us') (vs ++ vs').toArray := by
 obtain ⟨a1, a2, a3⟩ := h
 obtain ⟨b1, b2, b3⟩ := h'
 have a1 : vs.length = us.length := by simpa using a1
 have b1 : vs'.length = us'.length := by simpa using b1
 refine ⟨by simp [a1, b1], fun v hv => ?_, fun j x y hx hy => ?_⟩
 ·rcases List.mem_append.1 hv with hv | hv
  ·exact a2 v hv
  ·exact b2 v hv
 ·by_cases hj : j < us.length
  ·rw [List.getElem?_append_left hj] at hx
   have hy : vs[j]? = some y := by rw [← List.getElem?_append_left (l₂ := vs') (by omega)]; simpa using hy
   exact a3 j x y hx (by simpa using hy)
  ·rw [List.getElem?_append_right (by omega)] at hx
   have hy : vs'[j - us.length]? = some y := by
    have : (vs ++ vs')[j]? = some y := by simpa using hy
    rw [List.getElem?_append_right (by omega), a1] at this
    exact this
   exact b3 _ x y hx (by simpa using hy)
theorem g0_noid (W : World) : (g0 W).noid = g0 W := rfl
theorem flat_els (f : List AV → AV) (es : List (List AV)) (h : ∀ x ∈ es, (f x).cells = x) : flat (es.map f) = es.flatten := by
 induction es with
 | nil => rfl
 | cons x es ih =>
  rw [List.map_cons, flat, List.flatMap_cons, h x (by simp), List.flatten_cons]
  exact congrArg _ (ih fun y hy => h y (by simp [hy]))
theorem flatten_at {α : Type} {sz : Nat} : ∀ {es : List (List α)} (_ : ∀ x ∈ es, x.length = sz) (j : Nat) (u : α), es.flatten[j]? = some u → ∃ i k x, es[i]? = some x ∧ x[k]? = some u ∧ k < sz ∧ j = i * sz + k
 | [], _, j, u, h => by simp at h
 | x :: es, hs, j, u, h => by
  have hx := hs x (by simp)
  rw [List.flatten_cons] at h
  by_cases hj : j < x.length
  ·rw [List.getElem?_append_left hj] at h
   exact ⟨0, j, x, rfl, h, by omega, by omega⟩
  ·rw [List.getElem?_append_right (by omega)] at h
   obtain ⟨i, k, y, h1, h2, h3, h4⟩ := flatten_at (fun y hy => hs y (by simp [hy])) _ u h
   exact ⟨i + 1, k, y, by simpa using h1, h2, h3, by rw [Nat.succ_mul]; omega⟩
theorem flatten_len {α : Type} {sz : Nat} : ∀ {es : List (List α)} (_ : ∀ x ∈ es, x.length = sz), es.flatten.length = es.length * sz
 | [], _ => by simp
 | x :: es, hs => by
  rw [List.flatten_cons, List.length_append, flatten_len (fun y hy => hs y (by simp [hy])), hs x (by simp), List.length_cons, Nat.succ_mul]; omega
theorem weightsAll_mem' {H : Type} {e : TypeId} {l : List (DataW H)} {d : DataW H} {n : Nat} (hd : d ∈ l) (hn : n ∈ d.weights P e) : n ∈ DataW.weightsAll P e l := by
 induction l with
 | nil => cases hd
 | cons a l ih =>
  rw [DataW.weightsAll]
  rcases List.mem_cons.1 hd with rfl | hd
  ·exact List.mem_append_left _ hn
  ·exact List.mem_append_right _ (ih hd)
variable {H : Type} {enc : TypeId × Value → H} {W : World} {base : Nat} {spare : Nat → Bool} {held : Bool}
theorem open_any (B : Nat) : ∀ (n fuel : Nat) (t : TypeId) (cs : List Value) (x : DataW H × List MemPlace), fo P n t = true → DataW.trod enc P W base spare held fuel t cs = some x → (∀ m ∈ x.1.weights P t, m ≤ B) →
  ∃ us, shp P B n t us ∧ CellsRel W (g0 W) us cs.toArray ∧ cs.length = P.cellsOf t := by
 intro n
 induction n with
 | zero => intro fuel t cs x h; cases h
 | succ n ih =>
  intro fuel t cs x hf ht hwt
  unfold fo at hf
  unfold shp
  split at hf <;> rename_i hu
  ·obtain ⟨b, rfl, _⟩ := DataW.trod_bool hu ht
   exact ⟨[.bo b], ⟨b, rfl⟩, CellsRel.one (.bo _ b) rfl, by simpa using Eq.symm (by simpa using hf)⟩
  ·obtain ⟨s, rfl, rfl, hs⟩ := DataW.trod_string hu ht
   exact ⟨[.st s.data.toList], ⟨_, rfl, by simpa [DataW.weights] using hwt s.data.toList.length (by simp [DataW.weights])⟩, CellsRel.one (rel_string W _ s) rfl, by simpa using Eq.symm (by simpa using hf)⟩
  ·obtain ⟨i, rfl, _, hi⟩ := DataW.trod_int hu ht
   exact ⟨[.it _ i], ⟨i, rfl, hi⟩, CellsRel.one (.it _ _ i) rfl, by simpa using Eq.symm (by simpa using hf)⟩
  ·rename_i e
   simp only [Bool.and_eq_true, decide_eq_true_eq, beq_iff_eq] at hf
   obtain ⟨⟨⟨hc, hpos⟩, hbp⟩, hfe⟩ := hf
   rcases Go.Deep.open_slice hu ht with ⟨rfl, _⟩ | ⟨a, len, cap, m, k, D, Pl, rfl, _, hle, hmx, hm, rfl, hx⟩
   ·exact ⟨[.sl .ro []], ⟨[], rfl, by simp, Nat.zero_le _⟩, CellsRel.one (rel_nil W _) rfl, by simpa using hc.symm⟩
   have hlm : len ≤ m := by rw [hm]; split <;> omega
   obtain ⟨U, hU⟩ := Go.Deep.choose_lt (α := List AV × List Value) (n := len) (p := fun i q => shp P B n e q.1 ∧ CellsRel W (g0 W) q.1 q.2.toArray ∧ q.2.length = P.cellsOf e ∧ W.cells? base (a.add (i * P.cellsOf e)) (P.cellsOf e) = some q.2) (fun i hi => by
    obtain ⟨cs', h1, h2⟩ := hx i (by omega)
    obtain ⟨us, h3, h4, h5⟩ := ih _ _ _ _ hfe h2 (fun y hy => hwt y (by
     simp only [DataW.weights, hu]
     exact List.mem_cons_of_mem _ (List.mem_append_left _ (weightsAll_mem' (List.mem_map.2 ⟨i, by simpa using hi, rfl⟩) hy))))
    exact ⟨(us, cs'), h3, h4, h5, h1⟩)
   have hes : ∀ x ∈ (List.range len).map fun i => (U i).1, shp P B n e x := fun x hx => by
    obtain ⟨i, hi, rfl⟩ := List.mem_map.1 hx
    exact (hU i (by simpa using hi)).1
   have hsz : ∀ x ∈ (List.range len).map fun i => (U i).1, x.length = P.cellsOf e := fun x hx => by
    obtain ⟨i, hi, rfl⟩ := List.mem_map.1 hx
    have h := hU i (by simpa using hi)
    have := h.2.1.1
    rw [← this]
    simpa using h.2.2.1
   have hlB : len ≤ B := by
    have h := hwt ((((List.range len).map D).length + ((List.range (m - len)).map fun j => D (len + j)).length) * P.bytesOf e) (by simp only [DataW.weights, hu]; exact List.mem_cons_self ..)
    rw [List.length_map, List.length_range] at h
    exact Nat.le_trans (Nat.le_trans (Nat.le_add_right _ _) (Nat.le_mul_of_pos_right _ hbp)) h
   refine ⟨_, ⟨(List.range len).map fun i => (U i).1, rfl, hes, by simpa using hlB⟩, CellsRel.one ?_ rfl, by simpa using hc.symm⟩
   have hfl : flat (((List.range len).map fun i => (U i).1).map (el (aggT P e))) = ((List.range len).map fun i => (U i).1).flatten := flat_els _ _ fun x hx => el_cells (hes x hx)
   have hln : (((List.range len).map fun i => (U i).1).map (el (aggT P e))).length = len := by simp
   have hcell : ∀ j u, ((List.range len).map fun i => (U i).1).flatten[j]? = some u → ∃ v, W.cell? (a.add j) = some v ∧ v.oneCell' = true ∧ Rel W (g0 W) u v := by
    intro j u hj
    obtain ⟨i, k', x, h1, h2, h3, rfl⟩ := flatten_at hsz j u hj
    rw [List.getElem?_map] at h1
    by_cases hi : i < len
    ·rw [List.getElem?_range hi] at h1
     simp only [Option.map_some, Option.some.injEq] at h1
     subst h1
     obtain ⟨g1, g2, g3, g4⟩ := hU i hi
     obtain ⟨_, c2, c3⟩ := World.cells?_some g4
     have hk : k' < (U i).2.length := by omega
     have c4 := c3 k' h3
     rw [List.getElem?_eq_getElem hk] at c4
     refine ⟨(U i).2[k'], ?_, g2.2.1 _ (by simp), g2.2.2 k' u _ h2 (by simp [hk])⟩
     rw [← c4]
     congr 1
     generalize i * P.cellsOf e = y
     unfold Addr.add
     by_cases hy : y = 0 <;> by_cases hk : k' = 0 <;> simp [hy, hk, Nat.add_assoc]
    ·rw [List.getElem?_eq_none (by simp; omega)] at h1
     cases h1
   have hfln := flatten_len hsz
   rw [List.length_map, List.length_range] at hfln
   have hget : ∀ j, j < ((List.range len).map fun i => (U i).1).flatten.length → ∃ u, ((List.range len).map fun i => (U i).1).flatten[j]? = some u := fun j hj => ⟨_, List.getElem?_eq_getElem hj⟩
   have h := Rel.sl (w := W) (g0 W) .ro (((List.range len).map fun i => (U i).1).map (el (aggT P e))) (some a) cap (P.cellsOf e) (fun j => (W.cell? (a.add j)).getD default) (by rw [hln]; exact hle) hmx
    (fun x hx => by
     obtain ⟨y, hy, rfl⟩ := List.mem_map.1 hx
     rw [el_cells (hes y hy), hsz y hy])
    (fun h0 => ?_) (fun j hj => ?_) (fun j u hu' => ?_) trivial
   ·rw [hln] at h; exact h
   ·rw [hln] at h0
    obtain ⟨b, off, spot⟩ := a
    have hp0 : 0 < ((List.range len).map fun i => (U i).1).flatten.length := by rw [hfln]; exact Nat.mul_pos h0 hpos
    have hspot : spot = none := by
     obtain ⟨u, hu'⟩ := hget 0 hp0
     obtain ⟨v, hv, _⟩ := hcell 0 u hu'
     simpa [Addr.add] using World.cell?_spot hv
    subst hspot
    refine ⟨b, off, rfl, fun j hj => ?_⟩
    rw [hfl] at hj
    obtain ⟨u, hu'⟩ := hget j hj
    obtain ⟨v, hv, _⟩ := hcell j u hu'
    rw [Addr.add_lit] at hv
    refine ⟨lt_rowLen hv, ?_⟩
    show _ = some ((W.cell? (Addr.add ⟨b, off, none⟩ j)).getD default)
    rw [Addr.add_lit, hv]; rfl
   ·rw [hfl] at hj
    obtain ⟨u, hu'⟩ := hget j hj
    obtain ⟨v, hv, h1, _⟩ := hcell j u hu'
    show ((W.cell? (a.add j)).getD default).oneCell' = true
    rw [hv]; exact h1
   ·rw [hfl] at hu'
    obtain ⟨v, hv, _, h2⟩ := hcell j u hu'
    show Rel W (g0 W) u ((W.cell? (a.add j)).getD default)
    rw [hv]; exact h2
  ·rename_i fs
   simp only [Bool.and_eq_true, List.all_eq_true] at hf
   obtain ⟨xs, k, _, rfl, hl, hlen, hx⟩ := DataW.trod_struct hu ht
   suffices H : ∀ (r : List Field) (o i : Nat), consF P t r o = true → (∀ f ∈ r, fo P n f.type = true) → r = fs.toList.drop i → o ≤ cs.length →
     ∃ us, shpF (shp P B n) r us ∧ CellsRel W (g0 W) us (cs.drop o).toArray by
    obtain ⟨us, h1, h2⟩ := H fs.toList 0 0 hf.1 hf.2 rfl (Nat.zero_le _)
    exact ⟨us, h1, by simpa using h2, hl⟩
   intro r
   induction r with
   | nil =>
    intro o i hc _ _ ho
    have : o = cs.length := by rw [hl]; simpa [consF] using hc
    subst this
    exact ⟨[], rfl, by rw [List.drop_length]; exact CellsRel.nil _ _⟩
   | cons f r ihr =>
    intro o i hc hall hr ho
    simp only [consF, Bool.and_eq_true, beq_iff_eq] at hc
    have hfi : fs[i]? = some f := by
     have : (fs.toList.drop i)[0]? = some f := by rw [← hr]; rfl
     simpa using this
    have hil : i < xs.length := by
     rw [hlen]
     exact (Array.getElem?_eq_some_iff.1 hfi).1
    have hxi := hx i f hfi
    rw [List.getElem?_eq_getElem hil] at hxi
    obtain ⟨us, h1, h2, h3⟩ := ih _ _ _ _ (hall f (by simp)) hxi (fun y hy => hwt y (by
     simp only [DataW.weights, hu]
     refine DataW.weights_mem_each (j := i) (t := f.type) (d := (xs[i]).1) ?_ ?_ y hy
     ·rw [List.getElem?_map, Array.getElem?_toList, hfi]; rfl
     ·rw [List.getElem?_map, List.getElem?_eq_getElem hil]; rfl))
    rw [hc.1] at h2 h3
    rw [List.length_take, List.length_drop] at h3
    obtain ⟨us', h4, h5⟩ := ihr (o + P.cellsOf f.type) (i + 1) hc.2 (fun f' hf' => hall f' (by simp [hf'])) (by rw [← List.drop_drop, ← hr]; rfl) (by omega)
    refine ⟨us ++ us', ⟨us, us', rfl, h1, h4⟩, ?_⟩
    have := CellsRel.app h2 h5
    rw [← List.drop_drop, List.take_append_drop] at this
    exact this
  ·cases hf
theorem open_cell {B n : Nat} {t : TypeId} {v : Value} {d : DataW H} {p : List MemPlace} (hf : fo P n t = true) (hv : v.cells = #[v]) (h : DataW.Trod enc P W base spare held t v d p) (hwt : ∀ m ∈ d.weights P t, m ≤ B) :
  ∃ us, shp P B n t us ∧ ∀ u, us = [u] → Rel W (g0 W) u v := by
 obtain ⟨fuel, h⟩ := h
 rw [hv] at h
 obtain ⟨us, h1, h2, _⟩ := open_any B n fuel t _ _ hf h hwt
 exact ⟨us, h1, fun u hu => h2.2.2 0 u v (by rw [hu]; rfl) rfl⟩
theorem open_agg {B n : Nat} {t : TypeId} {fs : Array Field} {r : Reach} {v : Value} {d : DataW H} {p : List MemPlace} (ht : P.underlying t = some (.struct fs)) (hf : fo P n t = true) {b0 : Nat} (hok : Value.okWide P W r b0 t v) (h : DataW.Trod enc P W base spare held t v d p) (hwt : ∀ m ∈ d.weights P t, m ≤ B) :
  ∃ us, shp P B n t us ∧ Rel W (g0 W) (.agg us) v := by
 obtain ⟨fuel, h⟩ := h
 simp only [Value.okWide, ht] at hok
 obtain ⟨cs, rfl, _⟩ := hok
 obtain ⟨us, h1, h2, _⟩ := open_any B n fuel t _ _ hf h hwt
 exact ⟨us, h1, agg_of_cells (by simpa [Value.cells] using h2)⟩
theorem shp_bool {B n : Nat} {t : TypeId} {us : List AV} (hu : P.underlying t = some .bool) (h : shp P B (n + 1) t us) : ∃ b, us = [.bo b] := by unfold shp at h; rw [hu] at h; exact h
theorem shp_str {B n : Nat} {t : TypeId} {us : List AV} (hu : P.underlying t = some .string) (h : shp P B (n + 1) t us) : ∃ l : List UInt8, us = [.st l] ∧ l.length ≤ B := by unfold shp at h; rw [hu] at h; exact h
theorem shp_int {B n : Nat} {k : IntKind} {t : TypeId} {us : List AV} (hu : P.underlying t = some (.int k)) (h : shp P B (n + 1) t us) : ∃ i, us = [.it k i] ∧ (Lit.int k i).wf = true := by unfold shp at h; rw [hu] at h; exact h
theorem shp_i64 {B n : Nat} {t : TypeId} {us : List AV} (hu : P.underlying t = some (.int .i64)) (h : shp P B (n + 1) t us) : ∃ i, us = [.it .i64 i] ∧ -9223372036854775808 ≤ i ∧ i ≤ 9223372036854775807 := by
 obtain ⟨i, rfl, w⟩ := shp_int hu h
 clear h
 have h : (decide (IntKind.i64.min ≤ i) && decide (i ≤ IntKind.i64.max)) = true := w
 simp only [Bool.and_eq_true, decide_eq_true_eq] at h
 have h1 : IntKind.i64.min = -9223372036854775808 := by decide
 have h2 : IntKind.i64.max = 9223372036854775807 := by decide
 rw [h1, h2] at h
 exact ⟨i, rfl, h⟩
theorem shp_slice {α : Type} {B n : Nat} {t e : TypeId} {us : List AV} (enc : α → AV) (Q : α → Prop) (hu : P.underlying t = some (.slice e)) (h : shp P B (n + 1) t us) (he : ∀ x, shp P B n e x → ∃ a, el (aggT P e) x = enc a ∧ Q a) :
  ∃ l : List α, us = [.sl .ro (l.map enc)] ∧ l.length ≤ B ∧ ∀ a ∈ l, Q a := by
 unfold shp at h
 rw [hu] at h
 obtain ⟨es, rfl, h1, h2⟩ := h
 suffices H : ∃ l : List α, es.map (el (aggT P e)) = l.map enc ∧ l.length = es.length ∧ ∀ a ∈ l, Q a by
  obtain ⟨l, e1, e2, e3⟩ := H
  exact ⟨l, by rw [e1], by omega, e3⟩
 clear h2
 induction es with
 | nil => exact ⟨[], rfl, rfl, by simp⟩
 | cons x es ih =>
  obtain ⟨l, e1, e2, e3⟩ := ih fun y hy => h1 y (by simp [hy])
  obtain ⟨a, e4, e5⟩ := he x (h1 x (by simp))
  exact ⟨a :: l, by rw [List.map_cons, List.map_cons, e1, e4], by simp [e2], fun b hb => by
   rcases List.mem_cons.1 hb with rfl | hb
   ·exact e5
   ·exact e3 b hb⟩
theorem shp_struct {B n : Nat} {t : TypeId} {fs : Array Field} {us : List AV} (hu : P.underlying t = some (.struct fs)) (h : shp P B (n + 1) t us) : shpF (shp P B n) fs.toList us := by unfold shp at h; rw [hu] at h; exact h
theorem weights_of {ts : List TypeId} {ds : List (DataW H)} (h : (DataW.weightsEach P ts ds).all (· ≤ reachBytes) = true) {j : Nat} {t : TypeId} {d : DataW H} (ht : ts[j]? = some t) (hd : ds[j]? = some d) : ∀ m ∈ d.weights P t, m ≤ 140737488351232 := fun m hm => by
 have := List.all_eq_true.1 h _ (DataW.weights_mem_each ht hd m hm)
 exact of_decide_eq_true this
end
end Go.Proofs.Ytjicccjpooahoaa.Pe
