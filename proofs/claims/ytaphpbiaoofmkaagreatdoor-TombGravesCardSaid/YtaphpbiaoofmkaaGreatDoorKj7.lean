/- Several texts in one, without what this claim does not use (tools/shake.py). -/
import Derived.Test.YtaphpbiaoofmkaaGreatDoorKj6
import Derived.Below
import Derived.ChangeSame
import Derived.ProofKit
import Derived.OpenShut
import Derived.ShutString
import Derived.Deep.Strs
import Derived.SizedLaws
import Derived.Deep.Slices
import Derived.ChangeArms
import Derived.Laws.Entries
import Derived.Lib.DecodeN
set_option linter.unusedSectionVars false
set_option linter.unusedVariables false
set_option linter.unusedSimpArgs false
section
namespace Go.Proofs.YtaphpbiaoofmkaaGreatDoor.Pe
open Go Go.RowKit Go.WideShapes Go.ChangeShapes
def rowLen (W : World) (b : Nat) : Nat :=
 match W.heap[b]? with
 | some (.cells cs _ _) => cs.size
 | _ => 0
def g0 (W : World) : Gh := ⟨rowLen W, fun _ => 0, fun _ _ => False, 0, fun _ => false, fun _ => 0, fun _ => 0⟩
theorem lt_rowLen {W : World} {b o : Nat} {v : Value} (h : W.cell? ⟨b, o, none⟩ = some v) : o < rowLen W b := by
 unfold World.cell? at h
 unfold rowLen
 cases hb : W.heap[b]? with
 | none => simp [hb] at h
 | some ob =>
  cases ob with
  | cells cs t fr =>
   simp only [hb] at h ⊢
   by_cases hlt : o < cs.size
   ·exact hlt
   ·have hn : cs[o]? = none := Array.getElem?_eq_none (by omega)
    simp [hn] at h
  | _ => simp [hb] at h
theorem wf0 [Tab] {W : World} (h : ∀ b i v, Tab.T b i = some v → W.cell? ⟨b, i, none⟩ = some v) : WF W (g0 W) [] :=
 ⟨rfl, fun l o hl => by simp at hl, fun l l' b hl => absurd hl (Nat.not_lt_zero _), fun l b hl => absurd hl (Nat.not_lt_zero _), fun b i v hv => ⟨lt_rowLen (h b i v hv), h b i v hv⟩⟩
theorem evo_below {W W' : World} {g' : Gh} (h : Evo W (g0 W) W' g') : Below W.heap.size W W' :=
 ⟨h.os, h.tape, h.output, h.size, fun b hb => h.old b hb fun l hl => absurd hl (Nat.not_lt_zero _)⟩
theorem law_run [Tab] {P : Program} {f : FuncId} {args : List AV} {S' : Store} {b : Bool} (h : AC P f args [] (.bo b) S') {W : World} (hT : ∀ b i v, Tab.T b i = some v → W.cell? ⟨b, i, none⟩ = some v) {cargs : Array Value} (ha : LRel W (g0 W) args cargs) :
  Calls P f cargs W fun e W' => e = .returned (.bool b) ∧ Below W.heap.size W W' :=
 (h.run W (g0 W) cargs (wf0 hT) ha).mono fun e W' ⟨cv, g', he, _, hr, hev⟩ => by
  cases hr
  exact ⟨he, evo_below hev⟩
theorem lrel0 {w : World} {g : Gh} : LRel w g [] #[] := ⟨rfl, fun j u v hu => by simp at hu⟩
theorem lrelL {w : World} {g : Gh} {us : List AV} {vs : List Value} {u : AV} {v : Value} (h : Rel w g u v) (hs : LRel w g us vs.toArray) : LRel w g (u :: us) (v :: vs).toArray := by
 refine ⟨by have := hs.1; simp at this; simp [this], fun j a b ha hb => ?_⟩
 cases j with
 | zero => simp at ha hb; subst ha hb; exact h
 | succ j => exact hs.2 j a b (by simpa using ha) (by simpa using hb)
theorem rel_string (W : World) (g : Gh) (x : ByteArray) : Rel W g (.st x.data.toList) (.string x) := by
 have := Rel.st (w := W) g x.data.toList
 rwa [show (⟨x.data.toList.toArray⟩ : ByteArray) = x from by rw [Array.toArray_toList]] at this
theorem rel_nil (W : World) (g : Gh) : Rel W g (.sl .ro []) (.slice none 0 0) :=
 .sl g .ro [] none 0 0 (fun _ => .bool false) (Nat.le_refl _) (Nat.zero_le _) (fun e he => by simp at he) (fun h => absurd h (by simp)) (fun j hj => by simp [flat] at hj) (fun j u hu => by simp [flat] at hu) trivial
end Go.Proofs.YtaphpbiaoofmkaaGreatDoor.Pe
namespace Go.Proofs.YtaphpbiaoofmkaaGreatDoor.Pe
open Go Go.RowKit Go.ChangeShapes
def consF (P : Program) (t : TypeId) : List Field → Nat → Bool
 | [], o => o == P.cellsOf t
 | f :: r, o => f.offset == o && consF P t r (o + P.cellsOf f.type)
def aggT (P : Program) (t : TypeId) : Bool := match P.underlying t with
 | some (.struct _) => true
 | _ => false
def fo (P : Program) : Nat → TypeId → Bool
 | 0, _ => false
 | n + 1, t => match P.underlying t with
  | some .bool => P.cellsOf t == 1
  | some .string => P.cellsOf t == 1
  | some (.int _) => P.cellsOf t == 1
  | some (.slice e) => P.cellsOf t == 1 && decide (0 < P.cellsOf e) && decide (0 < P.bytesOf e) && fo P n e
  | some (.struct fs) => consF P t fs.toList 0 && fs.toList.all fun f => fo P n f.type
  | _ => false
def el (ag : Bool) (us : List AV) : AV := if ag then .agg us else us.headD .junk
def shpF (S : TypeId → List AV → Prop) : List Field → List AV → Prop
 | [], us => us = []
 | f :: r, us => ∃ a b, us = a ++ b ∧ S f.type a ∧ shpF S r b
def shp (P : Program) (B : Nat) : Nat → TypeId → List AV → Prop
 | 0, _, _ => False
 | n + 1, t, us => match P.underlying t with
  | some .bool => ∃ b, us = [.bo b]
  | some .string => ∃ l : List UInt8, us = [.st l] ∧ l.length ≤ B
  | some (.int k) => ∃ i, us = [.it k i] ∧ (Lit.int k i).wf = true
  | some (.slice e) => ∃ es : List (List AV), us = [.sl .ro (es.map (el (aggT P e)))] ∧ (∀ x ∈ es, shp P B n e x) ∧ es.length ≤ B
  | some (.struct fs) => shpF (shp P B n) fs.toList us
  | _ => False
section
variable {P : Program}
theorem el_cells {B n : Nat} {t : TypeId} {us : List AV} (h : shp P B n t us) : (el (aggT P t) us).cells = us := by
 cases n with
 | zero => cases h
 | succ n =>
  unfold shp at h
  unfold aggT
  split at h
  ·rename_i hu; rw [hu]; obtain ⟨b, rfl⟩ := h; rfl
  ·rename_i hu; rw [hu]; obtain ⟨b, rfl, _⟩ := h; rfl
  ·rename_i hu; rw [hu]; obtain ⟨b, rfl, _⟩ := h; rfl
  ·rename_i hu; rw [hu]; obtain ⟨b, rfl, _⟩ := h; rfl
  ·rename_i hu; rw [hu]; rfl
  ·cases h
theorem CellsRel.nil (w : World) (g : Gh) : CellsRel w g [] #[] := ⟨rfl, by simp, by simp⟩
theorem CellsRel.one {w : World} {g : Gh} {u : AV} {v : Value} (h : Rel w g u v) (h1 : v.oneCell' = true) : CellsRel w g [u] #[v] := by
 refine ⟨rfl, by simpa using h1, fun j x y hx hy => ?_⟩
 match j with
 | 0 => cases hx; cases hy; exact h
 | j + 1 => simp at hx
theorem CellsRel.app {w : World} {g : Gh} {us us' : List AV} {vs vs' : List Value} (h : CellsRel w g us vs.toArray) (h' : CellsRel w g us' vs'.toArray) : CellsRel w g (us ++ us') (vs ++ vs').toArray := by
 obtain ⟨a1, a2, a3⟩ := h
 obtain ⟨b1, b2, b3⟩ := h'
 have a1 : vs.length = us.length := by simpa using a1
 have b1 : vs'.length = us'.length := by simpa using b1
 refine ⟨by simp [a1, b1], fun v hv => ?_, fun j x y hx hy => ?_⟩
 ·rcases List.mem_append.1 hv with hv | hv
  ·exact a2 v hv
  ·exact b2 v hv
 ·by_cases hj : j < us.length
  ·rw [List.getElem?_append_left hj] at hx
   have hy : vs[j]? = some y := by rw [← List.getElem?_append_left (l₂ := vs') (by omega)]; simpa using hy
   exact a3 j x y hx (by simpa using hy)
  ·rw [List.getElem?_append_right (by omega)] at hx
   have hy : vs'[j - us.length]? = some y := by
    have : (vs ++ vs')[j]? = some y := by simpa using hy
    rw [List.getElem?_append_right (by omega), a1] at this
    exact this
   exact b3 _ x y hx (by simpa using hy)
theorem flat_els (f : List AV → AV) (es : List (List AV)) (h : ∀ x ∈ es, (f x).cells = x) : flat (es.map f) = es.flatten := by
 induction es with
 | nil => rfl
 | cons x es ih =>
  rw [List.map_cons, flat, List.flatMap_cons, h x (by simp), List.flatten_cons]
  exact congrArg _ (ih fun y hy => h y (by simp [hy]))
theorem flatten_at {α : Type} {sz : Nat} : ∀ {es : List (List α)} (_ : ∀ x ∈ es, x.length = sz) (j : Nat) (u : α), es.flatten[j]? = some u → ∃ i k x, es[i]? = some x ∧ x[k]? = some u ∧ k < sz ∧ j = i * sz + k
 | [], _, j, u, h => by simp at h
 | x :: es, hs, j, u, h => by
  have hx := hs x (by simp)
  rw [List.flatten_cons] at h
  by_cases hj : j < x.length
  ·rw [List.getElem?_append_left hj] at h
   exact ⟨0, j, x, rfl, h, by omega, by omega⟩
  ·rw [List.getElem?_append_right (by omega)] at h
   obtain ⟨i, k, y, h1, h2, h3, h4⟩ := flatten_at (fun y hy => hs y (by simp [hy])) _ u h
   exact ⟨i + 1, k, y, by simpa using h1, h2, h3, by rw [Nat.succ_mul]; omega⟩
theorem flatten_len {α : Type} {sz : Nat} : ∀ {es : List (List α)} (_ : ∀ x ∈ es, x.length = sz), es.flatten.length = es.length * sz
 | [], _ => by simp
 | x :: es, hs => by
  rw [List.flatten_cons, List.length_append, flatten_len (fun y hy => hs y (by simp [hy])), hs x (by simp), List.length_cons, Nat.succ_mul]; omega
theorem weightsAll_mem' {H : Type} {e : TypeId} {l : List (DataW H)} {d : DataW H} {n : Nat} (hd : d ∈ l) (hn : n ∈ d.weights P e) : n ∈ DataW.weightsAll P e l := by
 induction l with
 | nil => cases hd
 | cons a l ih =>
  rw [DataW.weightsAll]
  rcases List.mem_cons.1 hd with rfl | hd
  ·exact List.mem_append_left _ hn
  ·exact List.mem_append_right _ (ih hd)
variable {H : Type} {enc : TypeId × Value → H} {W : World} {base : Nat} {spare : Nat → Bool} {held : Bool}
theorem open_any (B : Nat) : ∀ (n fuel : Nat) (t : TypeId) (cs : List Value) (x : DataW H × List MemPlace), fo P n t = true → DataW.trod enc P W base spare held fuel t cs = some x → (∀ m ∈ x.1.weights P t, m ≤ B) →
  ∃ us, shp P B n t us ∧ CellsRel W (g0 W) us cs.toArray ∧ cs.length = P.cellsOf t := by
 intro n
 induction n with
 | zero => intro fuel t cs x h; cases h
 | succ n ih =>
  intro fuel t cs x hf ht hwt
  unfold fo at hf
  unfold shp
  split at hf <;> rename_i hu
  ·obtain ⟨b, rfl, _⟩ := DataW.trod_bool hu ht
   exact ⟨[.bo b], ⟨b, rfl⟩, CellsRel.one (.bo _ b) rfl, by simpa using Eq.symm (by simpa using hf)⟩
  ·obtain ⟨s, rfl, rfl, hs⟩ := DataW.trod_string hu ht
   exact ⟨[.st s.data.toList], ⟨_, rfl, by simpa [DataW.weights] using hwt s.data.toList.length (by simp [DataW.weights])⟩, CellsRel.one (rel_string W _ s) rfl, by simpa using Eq.symm (by simpa using hf)⟩
  ·obtain ⟨i, rfl, _, hi⟩ := DataW.trod_int hu ht
   exact ⟨[.it _ i], ⟨i, rfl, hi⟩, CellsRel.one (.it _ _ i) rfl, by simpa using Eq.symm (by simpa using hf)⟩
  ·rename_i e
   simp only [Bool.and_eq_true, decide_eq_true_eq, beq_iff_eq] at hf
   obtain ⟨⟨⟨hc, hpos⟩, hbp⟩, hfe⟩ := hf
   rcases Go.Deep.open_slice hu ht with ⟨rfl, _⟩ | ⟨a, len, cap, m, k, D, Pl, rfl, _, hle, hmx, hm, rfl, hx⟩
   ·exact ⟨[.sl .ro []], ⟨[], rfl, by simp, Nat.zero_le _⟩, CellsRel.one (rel_nil W _) rfl, by simpa using hc.symm⟩
   have hlm : len ≤ m := by rw [hm]; split <;> omega
   obtain ⟨U, hU⟩ := Go.Deep.choose_lt (α := List AV × List Value) (n := len) (p := fun i q => shp P B n e q.1 ∧ CellsRel W (g0 W) q.1 q.2.toArray ∧ q.2.length = P.cellsOf e ∧ W.cells? base (a.add (i * P.cellsOf e)) (P.cellsOf e) = some q.2) (fun i hi => by
    obtain ⟨cs', h1, h2⟩ := hx i (by omega)
    obtain ⟨us, h3, h4, h5⟩ := ih _ _ _ _ hfe h2 (fun y hy => hwt y (by
     simp only [DataW.weights, hu]
     exact List.mem_cons_of_mem _ (List.mem_append_left _ (weightsAll_mem' (List.mem_map.2 ⟨i, by simpa using hi, rfl⟩) hy))))
    exact ⟨(us, cs'), h3, h4, h5, h1⟩)
   have hes : ∀ x ∈ (List.range len).map fun i => (U i).1, shp P B n e x := fun x hx => by
    obtain ⟨i, hi, rfl⟩ := List.mem_map.1 hx
    exact (hU i (by simpa using hi)).1
   have hsz : ∀ x ∈ (List.range len).map fun i => (U i).1, x.length = P.cellsOf e := fun x hx => by
    obtain ⟨i, hi, rfl⟩ := List.mem_map.1 hx
    have h := hU i (by simpa using hi)
    have := h.2.1.1
    rw [← this]
    simpa using h.2.2.1
   have hlB : len ≤ B := by
    have h := hwt ((((List.range len).map D).length + ((List.range (m - len)).map fun j => D (len + j)).length) * P.bytesOf e) (by simp only [DataW.weights, hu]; exact List.mem_cons_self ..)
    rw [List.length_map, List.length_range] at h
    exact Nat.le_trans (Nat.le_trans (Nat.le_add_right _ _) (Nat.le_mul_of_pos_right _ hbp)) h
   refine ⟨_, ⟨(List.range len).map fun i => (U i).1, rfl, hes, by simpa using hlB⟩, CellsRel.one ?_ rfl, by simpa using hc.symm⟩
   have hfl : flat (((List.range len).map fun i => (U i).1).map (el (aggT P e))) = ((List.range len).map fun i => (U i).1).flatten := flat_els _ _ fun x hx => el_cells (hes x hx)
   have hln : (((List.range len).map fun i => (U i).1).map (el (aggT P e))).length = len := by simp
   have hcell : ∀ j u, ((List.range len).map fun i => (U i).1).flatten[j]? = some u → ∃ v, W.cell? (a.add j) = some v ∧ v.oneCell' = true ∧ Rel W (g0 W) u v := by
    intro j u hj
    obtain ⟨i, k', x, h1, h2, h3, rfl⟩ := flatten_at hsz j u hj
    rw [List.getElem?_map] at h1
    by_cases hi : i < len
    ·rw [List.getElem?_range hi] at h1
     simp only [Option.map_some, Option.some.injEq] at h1
     subst h1
     obtain ⟨g1, g2, g3, g4⟩ := hU i hi
     obtain ⟨_, c2, c3⟩ := World.cells?_some g4
     have hk : k' < (U i).2.length := by omega
     have c4 := c3 k' h3
     rw [List.getElem?_eq_getElem hk] at c4
     refine ⟨(U i).2[k'], ?_, g2.2.1 _ (by simp), g2.2.2 k' u _ h2 (by simp [hk])⟩
     rw [← c4]
     congr 1
     generalize i * P.cellsOf e = y
     unfold Addr.add
     by_cases hy : y = 0 <;> by_cases hk : k' = 0 <;> simp [hy, hk, Nat.add_assoc]
    ·rw [List.getElem?_eq_none (by simp; omega)] at h1
     cases h1
   have hfln := flatten_len hsz
   rw [List.length_map, List.length_range] at hfln
   have hget : ∀ j, j < ((List.range len).map fun i => (U i).1).flatten.length → ∃ u, ((List.range len).map fun i => (U i).1).flatten[j]? = some u := fun j hj => ⟨_, List.getElem?_eq_getElem hj⟩
   have h := Rel.sl (w := W) (g0 W) .ro (((List.range len).map fun i => (U i).1).map (el (aggT P e))) (some a) cap (P.cellsOf e) (fun j => (W.cell? (a.add j)).getD default) (by rw [hln]; exact hle) hmx
    (fun x hx => by
     obtain ⟨y, hy, rfl⟩ := List.mem_map.1 hx
     rw [el_cells (hes y hy), hsz y hy])
    (fun h0 => ?_) (fun j hj => ?_) (fun j u hu' => ?_) trivial
   ·rw [hln] at h; exact h
   ·rw [hln] at h0
    obtain ⟨b, off, spot⟩ := a
    have hp0 : 0 < ((List.range len).map fun i => (U i).1).flatten.length := by rw [hfln]; exact Nat.mul_pos h0 hpos
    have hspot : spot = none := by
     obtain ⟨u, hu'⟩ := hget 0 hp0
     obtain ⟨v, hv, _⟩ := hcell 0 u hu'
     simpa [Addr.add] using World.cell?_spot hv
    subst hspot
    refine ⟨b, off, rfl, fun j hj => ?_⟩
    rw [hfl] at hj
    obtain ⟨u, hu'⟩ := hget j hj
    obtain ⟨v, hv, _⟩ := hcell j u hu'
    rw [Addr.add_lit] at hv
    refine ⟨lt_rowLen hv, ?_⟩
    show _ = some ((W.cell? (Addr.add ⟨b, off, none⟩ j)).getD default)
    rw [Addr.add_lit, hv]; rfl
   ·rw [hfl] at hj
    obtain ⟨u, hu'⟩ := hget j hj
    obtain ⟨v, hv, h1, _⟩ := hcell j u hu'
    show ((W.cell? (a.add j)).getD default).oneCell' = true
    rw [hv]; exact h1
   ·rw [hfl] at hu'
    obtain ⟨v, hv, _, h2⟩ := hcell j u hu'
    show Rel W (g0 W) u ((W.cell? (a.add j)).getD default)
    rw [hv]; exact h2
  ·rename_i fs
   simp only [Bool.and_eq_true, List.all_eq_true] at hf
   obtain ⟨xs, k, _, rfl, hl, hlen, hx⟩ := DataW.trod_struct hu ht
   suffices H : ∀ (r : List Field) (o i : Nat), consF P t r o = true → (∀ f ∈ r, fo P n f.type = true) → r = fs.toList.drop i → o ≤ cs.length →
     ∃ us, shpF (shp P B n) r us ∧ CellsRel W (g0 W) us (cs.drop o).toArray by
    obtain ⟨us, h1, h2⟩ := H fs.toList 0 0 hf.1 hf.2 rfl (Nat.zero_le _)
    exact ⟨us, h1, by simpa using h2, hl⟩
   intro r
   induction r with
   | nil =>
    intro o i hc _ _ ho
    have : o = cs.length := by rw [hl]; simpa [consF] using hc
    subst this
    exact ⟨[], rfl, by rw [List.drop_length]; exact CellsRel.nil _ _⟩
   | cons f r ihr =>
    intro o i hc hall hr ho
    simp only [consF, Bool.and_eq_true, beq_iff_eq] at hc
    have hfi : fs[i]? = some f := by
     have : (fs.toList.drop i)[0]? = some f := by rw [← hr]; rfl
     simpa using this
    have hil : i < xs.length := by
     rw [hlen]
     exact (Array.getElem?_eq_some_iff.1 hfi).1
    have hxi := hx i f hfi
    rw [List.getElem?_eq_getElem hil] at hxi
    obtain ⟨us, h1, h2, h3⟩ := ih _ _ _ _ (hall f (by simp)) hxi (fun y hy => hwt y (by
     simp only [DataW.weights, hu]
     refine DataW.weights_mem_each (j := i) (t := f.type) (d := (xs[i]).1) ?_ ?_ y hy
     ·rw [List.getElem?_map, Array.getElem?_toList, hfi]; rfl
     ·rw [List.getElem?_map, List.getElem?_eq_getElem hil]; rfl))
    rw [hc.1] at h2 h3
    rw [List.length_take, List.length_drop] at h3
    obtain ⟨us', h4, h5⟩ := ihr (o + P.cellsOf f.type) (i + 1) hc.2 (fun f' hf' => hall f' (by simp [hf'])) (by rw [← List.drop_drop, ← hr]; rfl) (by omega)
    refine ⟨us ++ us', ⟨us, us', rfl, h1, h4⟩, ?_⟩
    have := CellsRel.app h2 h5
    rw [← List.drop_drop, List.take_append_drop] at this
    exact this
  ·cases hf
theorem open_cell {B n : Nat} {t : TypeId} {v : Value} {d : DataW H} {p : List MemPlace} (hf : fo P n t = true) (hv : v.cells = #[v]) (h : DataW.Trod enc P W base spare held t v d p) (hwt : ∀ m ∈ d.weights P t, m ≤ B) :
  ∃ us, shp P B n t us ∧ ∀ u, us = [u] → Rel W (g0 W) u v := by
 obtain ⟨fuel, h⟩ := h
 rw [hv] at h
 obtain ⟨us, h1, h2, _⟩ := open_any B n fuel t _ _ hf h hwt
 exact ⟨us, h1, fun u hu => h2.2.2 0 u v (by rw [hu]; rfl) rfl⟩
theorem open_agg {B n : Nat} {t : TypeId} {fs : Array Field} {r : Reach} {v : Value} {d : DataW H} {p : List MemPlace} (ht : P.underlying t = some (.struct fs)) (hf : fo P n t = true) {b0 : Nat} (hok : Value.okWide P W r b0 t v) (h : DataW.Trod enc P W base spare held t v d p) (hwt : ∀ m ∈ d.weights P t, m ≤ B) :
  ∃ us, shp P B n t us ∧ Rel W (g0 W) (.agg us) v := by
 obtain ⟨fuel, h⟩ := h
 simp only [Value.okWide, ht] at hok
 obtain ⟨cs, rfl, _⟩ := hok
 obtain ⟨us, h1, h2, _⟩ := open_any B n fuel t _ _ hf h hwt
 exact ⟨us, h1, agg_of_cells (by simpa [Value.cells] using h2)⟩
theorem shp_str {B n : Nat} {t : TypeId} {us : List AV} (hu : P.underlying t = some .string) (h : shp P B (n + 1) t us) : ∃ l : List UInt8, us = [.st l] ∧ l.length ≤ B := by unfold shp at h; rw [hu] at h; exact h
theorem shp_int {B n : Nat} {k : IntKind} {t : TypeId} {us : List AV} (hu : P.underlying t = some (.int k)) (h : shp P B (n + 1) t us) : ∃ i, us = [.it k i] ∧ (Lit.int k i).wf = true := by unfold shp at h; rw [hu] at h; exact h
theorem shp_i64 {B n : Nat} {t : TypeId} {us : List AV} (hu : P.underlying t = some (.int .i64)) (h : shp P B (n + 1) t us) : ∃ i, us = [.it .i64 i] ∧ -9223372036854775808 ≤ i ∧ i ≤ 9223372036854775807 := by
 obtain ⟨i, rfl, w⟩ := shp_int hu h
 clear h
 have h : (decide (IntKind.i64.min ≤ i) && decide (i ≤ IntKind.i64.max)) = true := w
 simp only [Bool.and_eq_true, decide_eq_true_eq] at h
 have h1 : IntKind.i64.min = -9223372036854775808 := by decide
 have h2 : IntKind.i64.max = 9223372036854775807 := by decide
 rw [h1, h2] at h
 exact ⟨i, rfl, h⟩
theorem shp_slice {α : Type} {B n : Nat} {t e : TypeId} {us : List AV} (enc : α → AV) (Q : α → Prop) (hu : P.underlying t = some (.slice e)) (h : shp P B (n + 1) t us) (he : ∀ x, shp P B n e x → ∃ a, el (aggT P e) x = enc a ∧ Q a) :
  ∃ l : List α, us = [.sl .ro (l.map enc)] ∧ l.length ≤ B ∧ ∀ a ∈ l, Q a := by
 unfold shp at h
 rw [hu] at h
 obtain ⟨es, rfl, h1, h2⟩ := h
 suffices H : ∃ l : List α, es.map (el (aggT P e)) = l.map enc ∧ l.length = es.length ∧ ∀ a ∈ l, Q a by
  obtain ⟨l, e1, e2, e3⟩ := H
  exact ⟨l, by rw [e1], by omega, e3⟩
 clear h2
 induction es with
 | nil => exact ⟨[], rfl, rfl, by simp⟩
 | cons x es ih =>
  obtain ⟨l, e1, e2, e3⟩ := ih fun y hy => h1 y (by simp [hy])
  obtain ⟨a, e4, e5⟩ := he x (h1 x (by simp))
  exact ⟨a :: l, by rw [List.map_cons, List.map_cons, e1, e4], by simp [e2], fun b hb => by
   rcases List.mem_cons.1 hb with rfl | hb
   ·exact e5
   ·exact e3 b hb⟩
theorem shp_struct {B n : Nat} {t : TypeId} {fs : Array Field} {us : List AV} (hu : P.underlying t = some (.struct fs)) (h : shp P B (n + 1) t us) : shpF (shp P B n) fs.toList us := by unfold shp at h; rw [hu] at h; exact h
theorem weights_of {ts : List TypeId} {ds : List (DataW H)} (h : (DataW.weightsEach P ts ds).all (· ≤ reachBytes) = true) {j : Nat} {t : TypeId} {d : DataW H} (ht : ts[j]? = some t) (hd : ds[j]? = some d) : ∀ m ∈ d.weights P t, m ≤ 140737488351232 := fun m hm => by
 have := List.all_eq_true.1 h _ (DataW.weights_mem_each ht hd m hm)
 exact of_decide_eq_true this
end
end Go.Proofs.YtaphpbiaoofmkaaGreatDoor.Pe
end
section
namespace Go.Proofs.YtaphpbiaoofmkaaGreatDoor.Co
open Go
abbrev By := List UInt8
def numF : Nat → Nat → By
 | 0, _ => []
 | f + 1, n => if n < 128 then [UInt8.ofNat n] else UInt8.ofNat (128 + n % 128) :: numF f (n / 128)
theorem numF_eq : ∀ (f g n : Nat), n < f → n < g → numF f n = numF g n
 | 0, _, _, h, _ => by omega
 | _, 0, _, _, h => by omega
 | f + 1, g + 1, n, h, h' => by
  unfold numF
  by_cases hn : n < 128
  ·rw [if_pos hn, if_pos hn]
  ·rw [if_neg hn, if_neg hn, numF_eq f g (n / 128) (by omega) (by omega)]
def num (n : Nat) : By := numF (n + 1) n
theorem num_small {n : Nat} (h : n < 128) : num n = [UInt8.ofNat n] := by unfold num numF; rw [if_pos h]
theorem num_big {n : Nat} (h : ¬ n < 128) : num n = UInt8.ofNat (128 + n % 128) :: num (n / 128) := by
 unfold num
 rw [numF, if_neg h, numF_eq n (n / 128 + 1) (n / 128) (by omega) (by omega)]
theorem num_len (n : Nat) : 0 < (num n).length := by
 by_cases h : n < 128
 ·rw [num_small h]; simp
 ·rw [num_big h]; simp
theorem num_le (k : Nat) : ∀ n, n < 128 ^ (k + 1) → (num n).length ≤ k + 1 := by
 induction k with
 | zero => intro n h; rw [num_small (by omega)]; simp
 | succ k ih =>
  intro n h
  by_cases h1 : n < 128
  ·rw [num_small h1]; simp
  ·rw [num_big h1, List.length_cons]
   have := ih (n / 128) (by rw [Nat.div_lt_iff_lt_mul (by omega)]; rw [Nat.pow_succ] at h; omega)
   omega
def numI (n : Int) : By := if n < 0 then [] else num n.toNat
theorem numI_nat (n : Nat) : numI (n : Int) = num n := by unfold numI; rw [if_neg (by omega), Int.toNat_natCast]
theorem numI_le (n : Int) (h : n < 9223372036854775808) : (numI n).length ≤ 9 := by
 unfold numI
 split
 ·simp
 ·exact num_le 8 n.toNat (by omega)
def text (s : By) : By := num s.length ++ s
def list (l : List By) : By := num l.length ++ (l.map text).flatten
structure R where
 rest : By
 bad : Bool
def rdN : By → Nat → Nat → Option (Nat × By)
 | [], _, _ => none
 | d :: r, i, n => if 9 ≤ i then none else if 128 ≤ d.toNat then rdN r (i + 1) (n + (d.toNat - 128) * 2 ^ (7 * i)) else if d.toNat = 0 ∧ 0 < i then none else some (n + d.toNat * 2 ^ (7 * i), r)
def fail : R := ⟨[], true⟩
def R.num (x : R) : Nat × R := match rdN x.rest 0 0 with
 | some (n, r) => (n, ⟨r, x.bad⟩)
 | none => (0, fail)
def R.take (x : R) (n : Nat) : By × R := if x.bad = true ∨ x.rest.length < n then ([], fail) else (x.rest.take n, ⟨x.rest.drop n, x.bad⟩)
def R.text (x : R) : By × R := x.num.2.take x.num.1
def R.texts : Nat → R → List By × R
 | 0, x => ([], x)
 | n + 1, x => if x.bad then ([], x) else (x.text.1 :: (R.texts n x.text.2).1, (R.texts n x.text.2).2)
def R.list (x : R) : List By × R :=
 let y := if x.num.2.rest.length < x.num.1 then fail else x.num.2
 if (y.texts x.num.1).2.bad then ([], (y.texts x.num.1).2) else y.texts x.num.1
end Go.Proofs.YtaphpbiaoofmkaaGreatDoor.Co
end
section
namespace Go.Proofs.YtaphpbiaoofmkaaGreatDoor.Pe
open Go Co
variable [Tab]
set_option maxRecDepth 100000
abbrev sls (l : List By) : AV := .sl .ro (l.map .st)
abbrev rd (x : R) : SObj := .cells [.st x.rest, .bo x.bad]
theorem wrap8 {n : Int} (h : 0 ≤ n) (h' : n < 256) : IntKind.u8.wrap n = n := by
 show n % 2 ^ 8 = n
 omega
theorem ofNat8 {n : Nat} (h : n < 256) : (UInt8.ofNat n).toNat = n := by
 rw [UInt8.toNat_ofNat']; omega
theorem snoc8 (acc : By) (b : UInt8) : acc.map u8 ++ [AV.it .u8 (b.toNat : Int)] = (acc ++ [b]).map u8 := by simp [u8]
theorem num_c (n : Int) (h : n < 9223372036854775808) (h0 : -9223372036854775808 ≤ n) : AC Tryz.prog 116 [.it .i64 n] [] (.st (numI n)) [] := by
 refine AC.enter [] [] Tryz.func116 rfl (by decide) (by decide) (Nat.le_of_ble_eq_true rfl) (by kernel_rfl) ?_; simp only [eraseC, eraseO, List.map_cons, List.map_nil, List.map_toArray, List.getElem?_toArray, List.getElem?_cons_zero, List.getElem?_cons_succ, Option.bind_some, Option.bind_none, List.append_eq, List.cons_append, List.nil_append]
 by_cases hn : n < 0
 ·rw [show numI n = [] from if_pos hn]
  refine run ?_
  exact er0
 obtain ⟨k, rfl⟩ := Int.eq_ofNat_of_zero_le (show 0 ≤ n by omega)
 rw [numI_nat]
 refine run ?_
 refine loop_mk' (fun m e S => ∃ (acc : By) (j : Nat), e 0 = .it .i64 (j : Int) ∧ e 3 = .sl (.own 0) (acc.map u8) ∧ S = [.buf acc.length 5 1] ∧ acc ++ num j = num k ∧ j ≤ k ∧ acc.length + j ≤ k ∧ m = j) k _ _ (Weak.reserve 0 3 (es := []) (by rfl) 5 1) ⟨[], k, (by first | rfl | (simp only [↓upd_apply, ↓put_some, ↓reduceIte, Nat.reduceEqDiff, ↓argEnv_zero, ↓argEnv_succ, *]; done)), (by first | rfl | (simp only [↓upd_apply, ↓put_some, ↓reduceIte, Nat.reduceEqDiff, ↓argEnv_zero, ↓argEnv_succ, *]; done)), rfl, rfl, Nat.le_refl _, by simp, rfl⟩ ?_
 rintro q e S ⟨acc, q, s0, s3, rfl, hnum, hj, hacc, rfl⟩
 have hal : acc.length ≤ 8 := by
  have e1 := congrArg List.length hnum
  have e2 := num_le 8 k (by omega)
  have e3 := num_len q
  rw [List.length_append] at e1
  omega
 by_cases hs : q < 128
 ·have hb : IntKind.u8.wrap (q : Int) = ((UInt8.ofNat q).toNat : Int) := by rw [wrap8 (by omega) (by omega), ofNat8 (by omega)]
  have hsn := snoc8 acc (UInt8.ofNat q)
  rw [num_small hs] at hnum
  refine runf (an @s0 (an @s3 (an @hb @hsn))) ?_
  rw [← hnum]
  exact er0
 ·have ht : (q : Int).tmod 128 = ((q % 128 : Nat) : Int) := by rw [Int.tmod_eq_emod_of_nonneg (by omega)]; omega
  have hd : (q : Int).tdiv 128 = ((q / 128 : Nat) : Int) := by rw [Int.tdiv_eq_ediv_of_nonneg (by omega)]; omega
  have hb : IntKind.u8.wrap (128 + ((q % 128 : Nat) : Int)) = ((UInt8.ofNat (128 + q % 128)).toNat : Int) := by rw [wrap8 (by omega) (by omega), ofNat8 (by omega)]; omega
  rw [num_big hs] at hnum
  refine runf (an @s0 (an @s3 (an @ht (an @hd @hb)))) ?_
  refine round_mk (q / 128) (by omega) ⟨acc ++ [UInt8.ofNat (128 + q % 128)], q / 128, (by first | rfl | (simp only [↓upd_apply, ↓put_some, ↓reduceIte, Nat.reduceEqDiff, ↓argEnv_zero, ↓argEnv_succ, *]; done)), by rw [← snoc8]; exact (by first | rfl | (simp only [↓upd_apply, ↓put_some, ↓reduceIte, Nat.reduceEqDiff, ↓argEnv_zero, ↓argEnv_succ, *]; done)), by rw [List.length_append]; rfl, by rw [List.append_assoc]; exact hnum, by omega, by rw [List.length_append, List.length_singleton]; omega, rfl⟩
theorem text_c (s : By) (h : s.length ≤ 140737488355328) : AC Tryz.prog 115 [.st s] [] (.st (text s)) [] := by
 refine AC.enter [116] [] Tryz.func115 rfl (by decide) (by decide) (Nat.le_of_ble_eq_true rfl) (by kernel_rfl) ?_; simp only [eraseC, eraseO, List.map_cons, List.map_nil, List.map_toArray, List.getElem?_toArray, List.getElem?_cons_zero, List.getElem?_cons_succ, Option.bind_some, Option.bind_none, List.append_eq, List.cons_append, List.nil_append]
 have hl := numI_le (s.length : Int) (by omega)
 refine run ?_
 refine cp (num_c s.length (by omega) (by omega)) ?_
 rw [numI_nat] at *
 refine run ?_
 exact er0
theorem num_len9 {n : Nat} (h : n < 9223372036854775808) : (num n).length ≤ 9 := num_le 8 n (by omega)
theorem text_len {s : By} (h : s.length ≤ 1000000) : (text s).length ≤ 1000009 := by
 have := num_len9 (n := s.length) (by omega)
 unfold text; rw [List.length_append]; omega
theorem fl_take {l : List By} {k : Nat} (hk : k < l.length) : ((l.take (k + 1)).map text).flatten = ((l.take k).map text).flatten ++ text l[k] := by
 rw [List.take_succ_eq_append_getElem hk, List.map_append, List.flatten_append]
 congr 1
 exact List.append_nil _
theorem fl_len {l : List By} (hx : ∀ x ∈ l, x.length ≤ 1000000) : (l.map text).flatten.length ≤ l.length * 1000009 := by
 induction l with
 | nil => simp
 | cons a l ih =>
  have h1 := ih fun x h => hx x (by simp [h])
  have h2 := text_len (hx a (by simp))
  rw [List.map_cons, List.flatten_cons, List.length_append, List.length_cons, Nat.succ_mul]; omega
theorem list_len {l : List By} (hl : l.length ≤ 1000000) (hx : ∀ x ∈ l, x.length ≤ 1000000) : (list l).length ≤ 1000009000009 := by
 have := num_len9 (n := l.length) (by omega)
 have h2 := fl_len hx
 have h3 : l.length * 1000009 ≤ 1000000 * 1000009 := Nat.mul_le_mul_right _ hl
 unfold list; rw [List.length_append]; omega
theorem writeList_c (l : List By) (hl : l.length ≤ 1000000) (hx : ∀ x ∈ l, x.length ≤ 1000000) : AC Tryz.prog 235 [sls l, .fn (.func 115) [] []] [] (.st (list l)) [] := by
 refine AC.enter [116, 1000019] [] Tryz.func235 rfl (by decide) (by decide) (Nat.le_of_ble_eq_true rfl) (by kernel_rfl) ?_; simp only [eraseC, eraseO, List.map_cons, List.map_nil, List.map_toArray, List.getElem?_toArray, List.getElem?_cons_zero, List.getElem?_cons_succ, Option.bind_some, Option.bind_none, List.append_eq, List.cons_append, List.nil_append]
 have hn9 := num_len9 (n := l.length) (by omega)
 refine run ?_
 refine cp (num_c l.length (by omega) (by omega)) ?_
 rw [numI_nat]
 refine run ?_
 refine loop_mk (fun m e S => e 1 = .fn (.func 115) [] [] ∧ e 12 = sls l ∧ e 13 = .it .i64 (l.length : Int) ∧ ∃ (k : Nat) (acc : By), e 5 = .sl (.own 0) (acc.map u8) ∧ e 14 = .it .i64 (k : Int) ∧ S = [.buf acc.length 5 1] ∧ acc = num l.length ++ ((l.take k).map text).flatten ∧ k ≤ l.length ∧ m = l.length - k) l.length
  ⟨(by first | rfl | (simp only [↓upd_apply, ↓put_some, ↓reduceIte, Nat.reduceEqDiff, ↓argEnv_zero, ↓argEnv_succ, *]; done)), (by first | rfl | (simp only [↓upd_apply, ↓put_some, ↓reduceIte, Nat.reduceEqDiff, ↓argEnv_zero, ↓argEnv_succ, *]; done)), (by first | rfl | (simp only [↓upd_apply, ↓put_some, ↓reduceIte, Nat.reduceEqDiff, ↓argEnv_zero, ↓argEnv_succ, *]; done)), 0, num l.length, (by first | rfl | (simp only [↓upd_apply, ↓put_some, ↓reduceIte, Nat.reduceEqDiff, ↓argEnv_zero, ↓argEnv_succ, *]; done)), (by first | rfl | (simp only [↓upd_apply, ↓put_some, ↓reduceIte, Nat.reduceEqDiff, ↓argEnv_zero, ↓argEnv_succ, *]; done)), rfl, by simp, by omega, rfl⟩ ?_
 rintro m e S ⟨s1, s12, s13, k, acc, s5, s14, rfl, hacc, hk, rfl⟩
 by_cases hlt : k < l.length
 ·have ga : l[k]? = some l[k] := List.getElem?_eq_getElem hlt
  have hxk := hx l[k] (List.getElem_mem hlt)
  have htl := text_len hxk
  have hal : acc.length ≤ 1000009000009 := by
   have h1 := fl_len (l := l.take k) fun x h => hx x (List.mem_of_mem_take h)
   have h2 : (l.take k).length * 1000009 ≤ 1000000 * 1000009 := Nat.mul_le_mul_right _ (by rw [List.length_take]; omega)
   rw [hacc, List.length_append]; omega
  have hft := fl_take hlt
  generalize l[k] = x at *
  refine runf (an @s1 (an @s5 (an @s12 (an @s13 (an @s14 @ga))))) ?_
  refine cp (text_c x (by omega)) ?_
  refine runf (an @s1 (an @s5 (an @s12 (an @s13 @s14)))) ?_
  refine round_mk (l.length - (k + 1)) (by omega) ⟨(by first | rfl | (simp only [↓upd_apply, ↓put_some, ↓reduceIte, Nat.reduceEqDiff, ↓argEnv_zero, ↓argEnv_succ, *]; done)), (by first | rfl | (simp only [↓upd_apply, ↓put_some, ↓reduceIte, Nat.reduceEqDiff, ↓argEnv_zero, ↓argEnv_succ, *]; done)), (by first | rfl | (simp only [↓upd_apply, ↓put_some, ↓reduceIte, Nat.reduceEqDiff, ↓argEnv_zero, ↓argEnv_succ, *]; done)), k + 1, acc ++ text x, by rw [List.map_append]; exact (by first | rfl | (simp only [↓upd_apply, ↓put_some, ↓reduceIte, Nat.reduceEqDiff, ↓argEnv_zero, ↓argEnv_succ, *]; done)), (by first | rfl | (simp only [↓upd_apply, ↓put_some, ↓reduceIte, Nat.reduceEqDiff, ↓argEnv_zero, ↓argEnv_succ, *]; done)), by rw [List.length_append], by rw [hacc, hft, List.append_assoc], by omega, rfl⟩
 ·obtain rfl : k = l.length := by omega
  rw [List.take_length] at hacc
  refine runf (an @s1 (an @s5 (an @s12 (an @s13 @s14)))) ?_
  rw [show list l = acc from hacc.symm]
  exact er0
theorem list_c (l : List By) (hl : l.length ≤ 1000000) (hx : ∀ x ∈ l, x.length ≤ 1000000) : AC Tryz.prog 117 [sls l] [] (.st (list l)) [] := by
 refine AC.enter [235] [] Tryz.func117 rfl (by decide) (by decide) (Nat.le_of_ble_eq_true rfl) (by kernel_rfl) ?_; simp only [eraseC, eraseO, List.map_cons, List.map_nil, List.map_toArray, List.getElem?_toArray, List.getElem?_cons_zero, List.getElem?_cons_succ, Option.bind_some, Option.bind_none, List.append_eq, List.cons_append, List.nil_append]
 refine run ?_
 refine cp (writeList_c l hl hx) ?_
 refine run ?_
 exact er0
end Go.Proofs.YtaphpbiaoofmkaaGreatDoor.Pe
end
section
namespace Go.Proofs.YtaphpbiaoofmkaaGreatDoor.Sm
open Go
def word4 (a b c d : UInt8) : BitVec 32 := (bw a <<< 24) ||| (bw b <<< 16) ||| (bw c <<< 8) ||| bw d
def wordAt (l : List UInt8) (i : Nat) : BitVec 32 := word4 (l.getD (4 * i) 0) (l.getD (4 * i + 1) 0) (l.getD (4 * i + 2) 0) (l.getD (4 * i + 3) 0)
def rot (x : BitVec 32) (n : Nat) : BitVec 32 := (x <<< (32 - n)) ||| (x >>> n)
def sig0 (x : BitVec 32) : BitVec 32 := rot x 7 ^^^ rot x 18 ^^^ x >>> 3
def sig1 (x : BitVec 32) : BitVec 32 := rot x 17 ^^^ rot x 19 ^^^ x >>> 10
def firstW (l : List UInt8) (k : Nat) : List (BitVec 32) := (List.range k).map (wordAt l)
def nextW (ws : List (BitVec 32)) (i : Nat) : BitVec 32 := ws.getD (i - 16) 0 + sig0 (ws.getD (i - 15) 0) + ws.getD (i - 7) 0 + sig1 (ws.getD (i - 2) 0)
def schedN (l : List UInt8) : Nat → List (BitVec 32)
 | 0 => firstW l 16
 | n + 1 => schedN l n ++ [nextW (schedN l n) (16 + n)]
def sched (l : List UInt8) : List (BitVec 32) := schedN l 48
theorem schedN_length (l : List UInt8) (n : Nat) : (schedN l n).length = 16 + n := by
 induction n with
 | zero => simp [schedN, firstW]
 | succ n ih => simp [schedN, ih]; omega
theorem firstW_length (l : List UInt8) (k : Nat) : (firstW l k).length = k := by simp [firstW]
theorem firstW_snoc (l : List UInt8) (k : Nat) : firstW l (k + 1) = firstW l k ++ [wordAt l k] := by simp [firstW, List.range_succ]
theorem sched_length (l : List UInt8) : (sched l).length = 64 := by rw [sched, schedN_length]
theorem getD_app {α : Type} (l : List α) (x d : α) (j : Nat) : (l ++ [x]).getD j d = if j = l.length then x else l.getD j d := by
 simp only [List.getD_eq_getElem?_getD, List.getElem?_append]
 split
 ·rename_i h; rw [if_neg (by omega)]
 ·rename_i h
  by_cases hj : j = l.length
  ·subst hj; simp
  ·rw [if_neg hj, List.getElem?_eq_none (by simp; omega), List.getElem?_eq_none (by omega)]
theorem extract_getD (s : ByteArray) (a b i : Nat) (h : a + i < b) (hb : b ≤ s.size) (h' : i < (s.extract a b).size) : (s.extract a b)[i] = s.data.toList.getD (a + i) 0 := by
 have hs : s.data.size = s.size := rfl
 rw [ByteArray.getElem_extract, List.getD_eq_getElem?_getD, List.getElem?_eq_getElem (by simp; omega)]
 rfl
def tabK : List (BitVec 32) := [1116352408, 1899447441, 3049323471, 3921009573, 961987163, 1508970993, 2453635748, 2870763221, 3624381080, 310598401, 607225278, 1426881987, 1925078388, 2162078206, 2614888103, 3248222580, 3835390401, 4022224774, 264347078, 604807628, 770255983, 1249150122, 1555081692, 1996064986, 2554220882, 2821834349, 2952996808, 3210313671, 3336571891, 3584528711, 113926993, 338241895, 666307205, 773529912, 1294757372, 1396182291, 1695183700, 1986661051, 2177026350, 2456956037, 2730485921, 2820302411, 3259730800, 3345764771, 3516065817, 3600352804, 4094571909, 275423344, 430227734, 506948616, 659060556, 883997877, 958139571, 1322822218, 1537002063, 1747873779, 1955562222, 2024104815, 2227730452, 2361852424, 2428436474, 2756734187, 3204031479, 3329325298]
structure S8 where
 a : BitVec 32
 b : BitVec 32
 c : BitVec 32
 d : BitVec 32
 e : BitVec 32
 f : BitVec 32
 g : BitVec 32
 h : BitVec 32
def S8.list (s : S8) : List (BitVec 32) := [s.a, s.b, s.c, s.d, s.e, s.f, s.g, s.h]
def S8.cells (s : S8) : List Value := [w32 s.a, w32 s.b, w32 s.c, w32 s.d, w32 s.e, w32 s.f, w32 s.g, w32 s.h]
theorem cells_length (s : S8) : s.cells.length = 8 := rfl
theorem cells_size (s : S8) : s.cells.toArray.size = 8 := rfl
theorem cells_fit (s t : S8) : s.cells.length = t.cells.toArray.size := (cells_length s).trans (cells_size t).symm
def S8.add (s t : S8) : S8 := ⟨s.a + t.a, s.b + t.b, s.c + t.c, s.d + t.d, s.e + t.e, s.f + t.f, s.g + t.g, s.h + t.h⟩
def one8 (k x : BitVec 32) (s : S8) : BitVec 32 := s.h + (rot s.e 6 ^^^ rot s.e 11 ^^^ rot s.e 25) + ((s.e &&& s.f) ^^^ (~~~ s.e &&& s.g)) + k + x
def two8 (s : S8) : BitVec 32 := (rot s.a 2 ^^^ rot s.a 13 ^^^ rot s.a 22) + ((s.a &&& s.b) ^^^ (s.a &&& s.c) ^^^ (s.b &&& s.c))
def round8 (k x : BitVec 32) (s : S8) : S8 := ⟨one8 k x s + two8 s, s.a, s.b, s.c, s.d + one8 k x s, s.e, s.f, s.g⟩
def rounds8 (l : List UInt8) (s : S8) : Nat → S8
 | 0 => s
 | n + 1 => round8 (tabK.getD n 0) ((sched l).getD n 0) (rounds8 l s n)
def mix8 (s : S8) (l : List UInt8) : S8 := s.add (rounds8 l s 64)
def init8 : S8 := ⟨1779033703, 3144134277, 1013904242, 2773480762, 1359893119, 2600822924, 528734635, 1541459225⟩
def zerosN (m : Nat) : Nat := (120 - m % 64) % 64
def be8 (x : BitVec 64) : List UInt8 := [qb (x >>> 56), qb (x >>> 48), qb (x >>> 40), qb (x >>> 32), qb (x >>> 24), qb (x >>> 16), qb (x >>> 8), qb (x >>> 0)]
def ending (l : List UInt8) (n : Int) : List UInt8 := l ++ [128] ++ List.replicate (zerosN (l.length + 1)) 0 ++ be8 (BitVec.ofInt 64 n * 8#64)
theorem zerosN_le (m : Nat) : zerosN m < 64 := Nat.mod_lt _ (by omega)
theorem zerosN_at (m : Nat) : (m + zerosN m) % 64 = 56 := by unfold zerosN; omega
theorem zerosN_before (m z : Nat) (h : z < zerosN m) : (m + z) % 64 ≠ 56 := by unfold zerosN at h; omega
def endZ (l : List UInt8) (z : Nat) : List UInt8 := l ++ [128] ++ List.replicate z 0
theorem endZ_length (l : List UInt8) (z : Nat) : (endZ l z).length = l.length + 1 + z := by simp [endZ]; omega
theorem endZ_snoc (l : List UInt8) (z : Nat) : endZ l (z + 1) = endZ l z ++ [0] := by simp [endZ, List.replicate_succ']
def beN (x : BitVec 64) (j : Nat) : List UInt8 := (be8 x).take j
theorem beN_snoc (x : BitVec 64) (j : Nat) (h : j < 8) : beN x (j + 1) = beN x j ++ [qb (x >>> (56 - 8 * j))] := by
 rcases j with _ | _ | _ | _ | _ | _ | _ | _ | j
 all_goals first | rfl | omega
theorem ending_length (l : List UInt8) (n : Int) : (ending l n).length = l.length + 1 + zerosN (l.length + 1) + 8 := by simp [ending, be8]; omega
def absorb (l : List UInt8) (st : S8) : Nat → S8
 | 0 => st
 | n + 1 => mix8 (absorb l st n) ((l.drop (64 * n)).take 64)
def be4 (x : BitVec 32) : List UInt8 := [wb (x >>> 24), wb (x >>> 16), wb (x >>> 8), wb x]
def shaState (l : List UInt8) : S8 :=
 let st := absorb l init8 (l.length / 64)
 let tail := ending (l.drop (64 * (l.length / 64))) l.length
 absorb tail st (tail.length / 64)
def sha (l : List UInt8) : List UInt8 := (shaState l).list.flatMap be4
theorem turn_low : ∀ n : Fin 32, 0 < n.val → (BitVec.ofInt 64 (-(n.val : Int)) &&& 31#64).toNat = 32 - n.val ∧ (32#64 - (BitVec.ofInt 64 (-(n.val : Int)) &&& 31#64)).toNat = n.val := by decide +kernel
theorem rot_eq (x : BitVec 32) (n : Int) (h0 : 0 < n) (h : n < 32) : (x <<< (BitVec.ofInt 64 (-n) &&& 31#64).toNat ||| x >>> (32#64 - (BitVec.ofInt 64 (-n) &&& 31#64)).toNat) = rot x n.toNat := by
 obtain ⟨k, rfl⟩ := Int.eq_ofNat_of_zero_le (Int.le_of_lt h0)
 have := turn_low ⟨k, by omega⟩ (by simp only; omega)
 simp only at this
 rw [this.1, this.2, rot, Int.toNat_natCast]
theorem ending_blocks (l : List UInt8) (n : Int) : (ending l n).length % 64 = 0 := by
 rw [ending_length]
 have := zerosN_at (l.length + 1)
 omega
def dig (c : UInt8) : UInt8 × Bool := if le8 48 c && le8 c 57 then (c - 48, true) else if le8 97 c && le8 c 102 then (c - 97 + 10, true) else (0, false)
def nat8 (l : List UInt8) : Nat → Nat
 | 0 => 0
 | k + 1 => 256 * nat8 l k + (l.getD k 0).toNat
def num (l : List UInt8) : Nat := nat8 l 8 / 8
theorem nat8_lt (l : List UInt8) (k : Nat) : nat8 l k < 256 ^ k := by
 induction k with
 | zero => simp [nat8]
 | succ k ih =>
  have := (l.getD k 0).toNat_lt
  rw [nat8, Nat.pow_succ]
  omega
theorem num_step (l : List UInt8) (k : Nat) (h : k < 8) : (BitVec.ofNat 64 (nat8 l k) <<< 8 ||| bq (l.getD k 0)) = BitVec.ofNat 64 (nat8 l (k + 1)) := by
 have hlt := nat8_lt l k
 have hp : 256 ^ k ≤ 256 ^ 7 := Nat.pow_le_pow_right (by omega) (by omega)
 have hb := (l.getD k 0).toNat_lt
 rw [nat8]
 apply BitVec.eq_of_toNat_eq
 rw [BitVec.toNat_or, BitVec.toNat_shiftLeft, BitVec.toNat_ofNat, BitVec.toNat_ofNat, Nat.shiftLeft_eq]
 have hq : (bq (l.getD k 0)).toNat = (l.getD k 0).toNat := by
  unfold bq
  rw [BitVec.toNat_setWidth, UInt8.toNat_toBitVec, Nat.mod_eq_of_lt (by omega)]
 rw [hq]
 generalize (l.getD k 0).toNat = b at hb ⊢
 generalize nat8 l k = n at hlt ⊢
 have h1 : n % 2 ^ 64 = n := Nat.mod_eq_of_lt (by omega)
 rw [h1]
 have h2 : n * 2 ^ 8 % 2 ^ 64 = n * 2 ^ 8 := Nat.mod_eq_of_lt (by omega)
 rw [h2, nat_join 8 (n * 2 ^ 8) b (by omega) (by omega)]
 omega
theorem num_skip (l : List UInt8) (k : Nat) (h : k < 8) (hk : l.length ≤ k) : BitVec.ofNat 64 (nat8 l k) <<< 8 = BitVec.ofNat 64 (nat8 l (k + 1)) := by
 have h1 := num_step l k h
 have h0 : l.getD k 0 = 0 := by simp [List.getD_eq_getElem?_getD, List.getElem?_eq_none hk]
 rw [h0] at h1
 rw [← h1]
 simp [bq]
theorem num_end (l : List UInt8) : i64of ((BitVec.ofNat 64 (nat8 l 8)) >>> 3) = (num l : Int) := by
 unfold i64of
 have hlt := nat8_lt l 8
 have h1 : ((BitVec.ofNat 64 (nat8 l 8)) >>> 3).toNat = num l := by
  rw [BitVec.toNat_ushiftRight, BitVec.toNat_ofNat, Nat.mod_eq_of_lt (by omega), Nat.shiftRight_eq_div_pow]; rfl
 rw [BitVec.toInt_eq_toNat_of_lt (by rw [h1]; unfold num; omega), h1]
theorem nonempty_of {y : ByteArray} (h : 0 < y.size) : y.toList.isEmpty = false := by
 rw [ByteArray.toList_eq]
 have : y.data.toList.length = y.size := by simp
 cases hh : y.data.toList with
 | nil => rw [hh] at this; simp at this; omega
 | cons a l => rfl
theorem empty_of {y : ByteArray} (h : ¬ 0 < y.size) : y.toList.isEmpty = true := by
 rw [ByteArray.toList_eq]
 have : y.data.toList.length = y.size := by simp
 cases hh : y.data.toList with
 | nil => rfl
 | cons a l => rw [hh] at this; simp at this; omega
theorem digest_snoc (st : S8) (j : Nat) (h : j < 8) : (st.list.take (j + 1)).flatMap be4 = (st.list.take j).flatMap be4 ++ be4 (st.list.getD j 0) := by
 rcases j with _ | _ | _ | _ | _ | _ | _ | _ | j
 all_goals first | rfl | omega
theorem size64 (r : ByteArray) (h : 64 ≤ r.size) : (r.extract 0 64).size = 64 := by rw [ByteArray.size_extract]; omega
theorem take64 (r : ByteArray) : (r.extract 0 64).data.toList = r.data.toList.take 64 := by
 simp [ByteArray.data_extract]
theorem drop64 (r : ByteArray) (b : Nat) (h : r.size ≤ b) : (r.extract 64 b).data.toList = r.data.toList.drop 64 := by
 have : r.data.toList.length = r.size := by simp
 rw [ByteArray.data_extract, Array.toList_extract, List.extract_eq_take_drop, List.take_of_length_le (by simp; omega)]
end Go.Proofs.YtaphpbiaoofmkaaGreatDoor.Sm
end
section
namespace Go.Proofs.YtaphpbiaoofmkaaGreatDoor.Sg
open Go Co
def powF : Nat → Nat → Nat → Nat → Nat
 | 0, r, _, _ => r
 | f + 1, r, p, e => powF f (if e % 2 = 1 then r * p % 2305843009213693951 else r) (p * p % 2305843009213693951) (e / 2)
theorem powF_succ (f r p e : Nat) : powF (f + 1) r p e = powF f (if e % 2 = 1 then r * p % 2305843009213693951 else r) (p * p % 2305843009213693951) (e / 2) := rfl
theorem powF_zero : ∀ (f r p : Nat), powF f r p 0 = r
 | 0, _, _ => rfl
 | f + 1, r, p => by rw [powF_succ, if_neg (by simp), Nat.zero_div, powF_zero f]
theorem powF_lt : ∀ (f r p e : Nat), r < 2305843009213693951 → powF f r p e < 2305843009213693951
 | 0, _, _, _, h => h
 | f + 1, r, p, e, h => by
  rw [powF_succ]
  refine powF_lt f _ _ _ ?_
  split
  ·exact Nat.mod_lt _ (by decide)
  ·exact h
theorem powF_eq : ∀ (f r p e : Nat), r < 2305843009213693951 → powF f r p e = r * p ^ (e % 2 ^ f) % 2305843009213693951
 | 0, r, p, e, h => by
  show r = _
  rw [Nat.pow_zero, Nat.mod_one, Nat.pow_zero, Nat.mul_one, Nat.mod_eq_of_lt h]
 | f + 1, r, p, e, h => by
  have hlt : (if e % 2 = 1 then r * p % 2305843009213693951 else r) < 2305843009213693951 := by
   split
   ·exact Nat.mod_lt _ (by decide)
   ·exact h
  rw [powF_succ, powF_eq f _ _ _ hlt]
  have he : e % 2 ^ (f + 1) = e % 2 + 2 * (e / 2 % 2 ^ f) := by rw [Nat.pow_succ, Nat.mul_comm (2 ^ f) 2, Nat.mod_mul]
  rw [he, Nat.pow_add, Nat.pow_mul]
  generalize e / 2 % 2 ^ f = k
  have h1 : (p * p % 2305843009213693951) ^ k % 2305843009213693951 = (p ^ 2) ^ k % 2305843009213693951 := by rw [← Nat.pow_mod, Nat.pow_two]
  split
  ·rename_i h2
   rw [h2, Nat.pow_one, ← Nat.mul_assoc]
   rw [Nat.mul_mod, h1, Nat.mod_mod, ← Nat.mul_mod]
  ·rename_i h2
   rw [show e % 2 = 0 from by omega, Nat.pow_zero, Nat.one_mul, Nat.mul_mod, h1, ← Nat.mul_mod]
def powm (b e : Nat) : Nat := powF 64 1 (b % 2305843009213693951) e
theorem powm_lt (b e : Nat) : powm b e < 2305843009213693951 := powF_lt _ _ _ _ (by decide)
theorem powm_eq (b : Nat) {e : Nat} (h : e < 2 ^ 64) : powm b e = b ^ e % 2305843009213693951 := by
 unfold powm
 rw [powF_eq _ _ _ _ (by decide), Nat.mod_eq_of_lt h, Nat.one_mul, ← Nat.pow_mod]
theorem powm_order : powm 37 2305843009213693950 = 1 := by decide +kernel
theorem pow_N : 37 ^ 2305843009213693950 % 2305843009213693951 = 1 := by rw [← powm_eq 37 (show 2305843009213693950 < 2 ^ 64 by decide)]; exact powm_order
theorem pow_kN (k : Nat) : 37 ^ (2305843009213693950 * k) % 2305843009213693951 = 1 := by
 rw [Nat.pow_mul, Nat.pow_mod, pow_N, Nat.one_pow]
theorem pow_modN (k : Nat) : 37 ^ (k % 2305843009213693950) % 2305843009213693951 = 37 ^ k % 2305843009213693951 := by
 have h : 37 ^ k % 2305843009213693951 = 37 ^ (2305843009213693950 * (k / 2305843009213693950)) * 37 ^ (k % 2305843009213693950) % 2305843009213693951 := by rw [← Nat.pow_add, Nat.div_add_mod]
 rw [h, Nat.mul_mod, pow_kN, Nat.one_mul, Nat.mod_mod]
def expI (a e : Int) : Nat := powm (a % (2305843009213693951 : Int)).toNat (if e < 0 then (e % (2305843009213693950 : Int)).toNat else e.toNat)
def mulI (a b : Int) : Nat := (a % 2305843009213693951).toNat * (b % 2305843009213693951).toNat % 2305843009213693951
def mulNI (a b : Int) : Nat := (a % 2305843009213693950).toNat * (b % 2305843009213693950).toNat % 2305843009213693950
theorem mulI_nat {x y : Nat} (hx : x < 2305843009213693951) (hy : y < 2305843009213693951) : mulI x y = x * y % 2305843009213693951 := by
 unfold mulI
 rw [show ((x : Int) % 2305843009213693951).toNat = x by omega, show ((y : Int) % 2305843009213693951).toNat = y by omega]
def hash (s : By) : Nat := Sm.num (Sm.sha s)
theorem hash_lt (s : By) : hash s < 2305843009213693952 := by
 have := Sm.nat8_lt (Sm.sha s) 8
 unfold hash Sm.num
 omega
def reduce (h : Nat) : Nat := 1 + h % (2305843009213693950 - 1)
theorem reduce_lt (h : Nat) : 1 ≤ reduce h ∧ reduce h < 2305843009213693950 := by
 unfold reduce
 have := Nat.mod_lt h (show 2305843009213693950 - 1 > 0 by decide)
 omega
abbrev wSign : By := [115, 105, 103, 110]
abbrev wNonce : By := [110, 111, 110, 99, 101]
abbrev wKey : By := [107, 101, 121]
def challenge (r p : Int) (m : By) : Nat := hash (text wSign ++ numI r ++ numI p ++ text m) % 2305843009213693950
theorem challenge_lt (r p : Int) (m : By) : challenge r p m < 2305843009213693950 := Nat.mod_lt _ (by decide)
structure Key where
 secret : Int
 pub : Int
 deriving DecidableEq
structure Sig where
 e : Int
 s : Int
 deriving DecidableEq
def keyOf (s : Int) : Key := if s < 1 ∨ 2305843009213693949 < s then ⟨0, 0⟩ else ⟨s, powm 37 s.toNat⟩
def Key.right (k : Key) : Bool := decide (1 ≤ k.secret) && decide (k = keyOf k.secret)
def keySeed (seed : By) : Key := keyOf (reduce (hash (text wKey ++ text seed)))
def nonce (k : Key) (m : By) : Nat := reduce (hash (text wNonce ++ numI k.secret ++ text m))
def sign (k : Key) (m : By) : Sig :=
 if k.right then ⟨challenge (powm 37 (nonce k m)) k.pub m, ((nonce k m + challenge (powm 37 (nonce k m)) k.pub m * k.secret.toNat) % 2305843009213693950 : Nat)⟩ else ⟨0, 0⟩
def inOrder (n : Int) : Bool := decide (0 ≤ n) && decide (n < 2305843009213693950)
def commit (p : Int) (s : Sig) : Nat := powm 37 s.s.toNat * powm p.toNat (2305843009213693950 - s.e).toNat % 2305843009213693951
def verify (p : Int) (m : By) (s : Sig) : Bool :=
 decide (1 ≤ p) && decide (p < 2305843009213693951) && inOrder s.e && inOrder s.s && decide (s.e = challenge (commit p s) p m)
theorem Key.right_iff {k : Key} : k.right = true ↔ 1 ≤ k.secret ∧ k.secret ≤ 2305843009213693949 ∧ k.pub = powm 37 k.secret.toNat := by
 unfold Key.right keyOf
 obtain ⟨s, p⟩ := k
 simp only [Bool.and_eq_true, decide_eq_true_eq]
 constructor
 ·rintro ⟨h1, h2⟩
  split at h2
  ·injection h2; omega
  ·injection h2 with h3 h4
   exact ⟨h1, by omega, h4⟩
 ·rintro ⟨h1, h2, h3⟩
  rw [if_neg (by omega)]
  exact ⟨h1, by rw [h3]⟩
theorem Key.right_zero : Key.right ⟨0, 0⟩ = false := rfl
theorem keyOf_right {s : Int} (h1 : 1 ≤ s) (h2 : s ≤ 2305843009213693949) : (keyOf s).right = true := by
 unfold keyOf
 rw [if_neg (by omega), Key.right_iff]
 exact ⟨h1, h2, rfl⟩
theorem keySeed_right (seed : By) : (keySeed seed).right = true := by
 have := reduce_lt (hash (text wKey ++ text seed))
 exact keyOf_right (by omega) (by omega)
theorem pow_pos {x : Nat} (h : x ≤ 2305843009213693950) : 37 ^ x % 2305843009213693951 ≠ 0 := by
 intro h0
 have h1 : 37 ^ 2305843009213693950 % 2305843009213693951 = 37 ^ x * 37 ^ (2305843009213693950 - x) % 2305843009213693951 := by rw [← Nat.pow_add]; congr 2; omega
 rw [Nat.mul_mod, h0, Nat.zero_mul, Nat.zero_mod, pow_N] at h1
 exact absurd h1 (by decide)
theorem pub_range {k : Key} (h : k.right = true) : 1 ≤ k.pub ∧ k.pub < 2305843009213693951 := by
 obtain ⟨h1, h2, h3⟩ := Key.right_iff.1 h
 have := powm_lt 37 k.secret.toNat
 have h4 := powm_eq 37 (e := k.secret.toNat) (by omega)
 have h5 := pow_pos (x := k.secret.toNat) (by omega)
 rw [← h4] at h5
 omega
theorem commit_sign (u e x : Nat) (he : e ≤ 2305843009213693950) : 37 ^ ((u + e * x) % 2305843009213693950) % 2305843009213693951 * ((37 ^ x % 2305843009213693951) ^ (2305843009213693950 - e) % 2305843009213693951) % 2305843009213693951 = 37 ^ u % 2305843009213693951 := by
 rw [pow_modN, ← Nat.pow_mod, ← Nat.pow_mul, ← Nat.mul_mod, ← Nat.pow_add]
 have : u + e * x + x * (2305843009213693950 - e) = u + 2305843009213693950 * x := by
  rw [Nat.mul_comm e x, Nat.add_assoc, ← Nat.mul_add, Nat.add_sub_cancel' he, Nat.mul_comm]
 rw [this, Nat.pow_add, Nat.mul_mod, pow_kN, Nat.mul_one, Nat.mod_mod]
theorem verify_sign {k : Key} (h : k.right = true) (m : By) : verify k.pub m (sign k m) = true := by
 obtain ⟨p1, p2⟩ := pub_range h
 obtain ⟨h1, h2, h3⟩ := Key.right_iff.1 h
 have hu := reduce_lt (hash (text wNonce ++ numI k.secret ++ text m))
 change 1 ≤ nonce k m ∧ nonce k m < 2305843009213693950 at hu
 unfold sign
 rw [if_pos h]
 have he := challenge_lt (powm 37 (nonce k m)) k.pub m
 have hs : (nonce k m + challenge (powm 37 (nonce k m)) k.pub m * k.secret.toNat) % 2305843009213693950 < 2305843009213693950 := Nat.mod_lt _ (by decide)
 have hc : commit k.pub ⟨challenge (powm 37 (nonce k m)) k.pub m, ((nonce k m + challenge (powm 37 (nonce k m)) k.pub m * k.secret.toNat) % 2305843009213693950 : Nat)⟩ = powm 37 (nonce k m) := by
  generalize challenge (powm 37 (nonce k m)) k.pub m = e at *
  unfold commit
  simp only [Int.toNat_natCast]
  rw [h3, Int.toNat_natCast, show (2305843009213693950 - (e : Int)).toNat = 2305843009213693950 - e from by omega]
  rw [powm_eq _ (show 2305843009213693950 - e < 2 ^ 64 by omega), powm_eq _ (show k.secret.toNat < 2 ^ 64 by omega), powm_eq _ (show (nonce k m + e * k.secret.toNat) % 2305843009213693950 < 2 ^ 64 by omega), powm_eq _ (show nonce k m < 2 ^ 64 by omega)]
  exact commit_sign _ _ _ (by omega)
 unfold verify
 rw [hc]
 generalize challenge (powm 37 (nonce k m)) k.pub m = e at *
 generalize (nonce k m + e * k.secret.toNat) % 2305843009213693950 = s at *
 simp only [inOrder, Bool.and_eq_true, decide_eq_true_eq]
 refine ⟨⟨⟨⟨p1, p2⟩, ?_, ?_⟩, ?_, ?_⟩, trivial⟩ <;> omega
theorem sign_range (k : Key) (m : By) : 0 ≤ (sign k m).e ∧ (sign k m).e ≤ 2305843009213693949 ∧ 0 ≤ (sign k m).s ∧ (sign k m).s ≤ 2305843009213693949 := by
 unfold sign
 split
 ·have he := challenge_lt (powm 37 (nonce k m)) k.pub m
  have hs : (nonce k m + challenge (powm 37 (nonce k m)) k.pub m * k.secret.toNat) % 2305843009213693950 < 2305843009213693950 := Nat.mod_lt _ (by decide)
  simp only
  omega
 ·simp
end Go.Proofs.YtaphpbiaoofmkaaGreatDoor.Sg
end
section
namespace Go.Proofs.YtaphpbiaoofmkaaGreatDoor.Ac
open Go Co Sg
def hexc (b : UInt8) : Bool := (decide (48 ≤ b.toNat) && decide (b.toNat ≤ 57)) || (decide (97 ≤ b.toNat) && decide (b.toNat ≤ 102))
def idR (s : By) : Bool := decide (s.length = 16) && s.all hexc
def letter (b : UInt8) : Bool := decide (97 ≤ b.toNat) && decide (b.toNat ≤ 122)
def namec (b : UInt8) : Bool := letter b || (decide (48 ≤ b.toNat) && decide (b.toNat ≤ 57)) || decide (b.toNat = 95)
def nameR : By → Bool
 | [] => false
 | c :: r => decide (r.length ≤ 23) && letter c && r.all namec
def asc : List By → Bool
 | a :: b :: r => !(Op.bytesLess b a || b == a) && asc (b :: r)
 | _ => true
def idsR (l : List By) : Bool := decide (l.length ≤ 64) && l.all idR && asc l
structure Box where
 nonce : By
 data : By
 tag : By
 deriving DecidableEq
structure Wrap where
 to : Int
 eph : Int
 box : Box
 deriving DecidableEq
structure Act where
 author : By
 seq : Int
 prev : By
 kind : Int
 time : Int
 object : By
 target : By
 scope : Int
 group : By
 to : List By
 text : By
 body : Box
 epoch : Int
 wraps : List Wrap
 n : Int
 m : Int
 sig : Sig
 deriving DecidableEq
def box0 : Box := ⟨[], [], []⟩
def sig0 : Sig := ⟨0, 0⟩
def act0 : Act := ⟨[], 0, [], 0, 0, [], [], 0, [], [], [], box0, 0, [], 0, 0, sig0⟩
def wi (n lo hi : Int) : Bool := decide (lo ≤ n) && decide (n ≤ hi)
theorem wi_iff {n lo hi : Int} : wi n lo hi = true ↔ lo ≤ n ∧ n ≤ hi := by simp [wi]
def dig (s : By) : Bool := decide (s.length = 32)
def short (s : By) : Bool := decide (s.length ≤ 500)
def pub (n : Int) : Bool := wi n 1 2305843009213693950
def sealedB (b : Box) : Bool := decide (b.nonce.length = 32) && decide (b.tag.length = 16) && short b.data
def wrapR (w : Wrap) : Bool := pub w.to && pub w.eph && sealedB w.box
def wrapped (a : Act) : Bool := a.wraps.all wrapR && decide (a.wraps.length = a.to.length)
def sealedSc (scope : Int) (group : By) : Bool := if scope = 2 then nameR group else if scope = 1 ∨ scope = 3 then decide (group = []) else false
def audience (a : Act) : Bool :=
 idsR a.to && (if a.scope = 0 then decide (a.group = []) && decide (a.epoch = 0) && short a.text && decide (a.body = box0)
  else (decide (a.to = []) || decide (a.scope = 3)) && sealedSc a.scope a.group && wi a.epoch 0 1073741824 && decide (a.text = []) && sealedB a.body)
def home (a : Act) : Bool := pub a.n && wi a.m 0 19
def grant (a : Act) : Bool := sealedSc a.scope a.group && wi a.epoch 0 1073741824 && idsR a.to && wrapped a
def label (a : Act) : Bool := nameR a.text && ((dig a.object && decide (a.target = [])) || (idR a.target && decide (a.object = [])))
def setup (a : Act) : Bool := decide (0 < a.to.length) && idsR a.to && wrapped a && wi a.n 1 a.to.length && pub a.m
def note (z : Bool) (f s : Int) : Int := if z then s else Go.bits .or .i64 s f
def used (a : Act) : Int :=
 note (decide (a.m = 0)) 1024 <| note (decide (a.n = 0)) 512 <| note (decide (a.wraps = [])) 256 <| note (decide (a.epoch = 0)) 128 <| note (decide (a.body = box0)) 64 <|
 note (decide (a.text = [])) 32 <| note (decide (a.to = [])) 16 <| note (decide (a.group = [])) 8 <| note (decide (a.scope = 0)) 4 <| note (decide (a.target = [])) 2 <| note (decide (a.object = [])) 1 0
inductive Ru where
 | begin | post | reply | about | tie | reason | circle | grant | label | move | setup | judge | list
 deriving DecidableEq
def Ru.mask : Ru → Int
 | .begin => 1568
 | .post => 252
 | .reply => 253
 | .about => 1
 | .tie => 2
 | .reason => 33
 | .circle => 24
 | .grant => 412
 | .label => 35
 | .move => 1536
 | .setup => 1808
 | .judge => 513
 | .list => 546
def Ru.ok (a : Act) : Ru → Bool
 | .begin => nameR a.text && home a
 | .post => audience a
 | .reply => dig a.object && audience a
 | .about => dig a.object
 | .tie => idR a.target
 | .reason => dig a.object && short a.text
 | .circle => nameR a.group && idsR a.to
 | .grant => Ac.grant a
 | .label => Ac.label a
 | .move => home a
 | .setup => Ac.setup a
 | .judge => dig a.object && wi a.n 0 1
 | .list => idR a.target && short a.text && wi a.n 0 1099511627776
def ruleL : List (Int × Ru) := [(0, .begin), (1, .post), (2, .reply), (3, .reply), (14, .reply), (4, .about), (5, .about), (6, .about), (13, .about), (20, .about), (7, .tie), (8, .tie), (9, .tie), (10, .tie), (11, .tie), (12, .reason), (21, .reason), (15, .circle), (16, .grant), (17, .label), (18, .move), (19, .setup), (22, .judge), (23, .list)]
def rule (k : Int) : Option Ru := ruleL.lookup k
def placed (a : Act) : Bool := if a.seq = 0 then decide (a.kind = 0) && decide (a.prev = []) else wi a.seq 1 1073741824 && decide (a.kind ≠ 0) && dig a.prev
def sigR (s : Sig) : Bool := wi s.e 0 2305843009213693949 && wi s.s 0 2305843009213693949
def right (a : Act) : Bool := idR a.author && placed a && wi a.time 0 1099511627776 && sigR a.sig &&
 (match rule a.kind with
 | none => false
 | some r => decide (Go.bits .andNot .i64 (used a) r.mask = 0) && r.ok a)
def boxB (b : Box) : By := text b.nonce ++ text b.data ++ text b.tag
def wrapB (w : Wrap) : By := numI w.to ++ numI w.eph ++ boxB w.box
abbrev wAct : By := [97, 99, 116]
def coreB (a : Act) : By :=
 text wAct ++ text a.author ++ numI a.seq ++ text a.prev ++ numI a.kind ++ numI a.time ++ text a.object ++ text a.target ++ numI a.scope ++ text a.group ++ list a.to ++ text a.text ++ boxB a.body ++ numI a.epoch ++ num a.wraps.length ++ (a.wraps.map wrapB).flatten ++ numI a.n ++ numI a.m
def core (a : Act) : By := if right a then coreB a else []
def bytes (a : Act) : By := if right a then coreB a ++ numI a.sig.e ++ numI a.sig.s else []
def rBox (x : R) : Box × R := (⟨x.text.1, x.text.2.text.1, x.text.2.text.2.text.1⟩, x.text.2.text.2.text.2)
def rNum (x : R) : Int × R := ((x.num.1 : Int), x.num.2)
def rWrap (x : R) : Wrap × R :=
 let a := rNum x
 let b := rNum a.2
 let c := rBox b.2
 (⟨a.1, b.1, c.1⟩, c.2)
def rWrapsN : Nat → R → Option (List Wrap) × R
 | 0, x => (some [], x)
 | n + 1, x => if (rWrap x).2.rest = [] then (none, (rWrap x).2) else ((rWrapsN n (rWrap x).2).1.map ((rWrap x).1 :: ·), (rWrapsN n (rWrap x).2).2)
def rWraps (x : R) : List Wrap × R := ((rWrapsN x.num.1 x.num.2).1.getD [], (rWrapsN x.num.1 x.num.2).2)
def rAct (x : R) : Act × R :=
 let author := x.text
 let seq := rNum author.2
 let prev := seq.2.text
 let kind := rNum prev.2
 let time := rNum kind.2
 let object := time.2.text
 let target := object.2.text
 let scope := rNum target.2
 let group := scope.2.text
 let to := group.2.list
 let text := to.2.text
 let body := rBox text.2
 let epoch := rNum body.2
 let wraps := rWraps epoch.2
 let n := rNum wraps.2
 let m := rNum n.2
 let e := rNum m.2
 let s := rNum e.2
 (⟨author.1, seq.1, prev.1, kind.1, time.1, object.1, target.1, scope.1, group.1, to.1, text.1, body.1, epoch.1, wraps.1, n.1, m.1, ⟨e.1, s.1⟩⟩, s.2)
def _root_.Go.Proofs.YtaphpbiaoofmkaaGreatDoor.Co.R.done (x : R) : Bool := !x.bad && x.rest == []
def read (s : By) : Act × Bool :=
 let x : R := ⟨s, false⟩
 if x.text.1 = wAct ∧ (rAct x.text.2).2.done = true ∧ bytes (rAct x.text.2).1 = s then ((rAct x.text.2).1, true) else (act0, false)
def signA (k : Key) (a : Act) : Act :=
 let b := { a with sig := sig0 }
 if right b && k.right then { b with sig := sign k (core b) } else act0
def same (a b : Act) : Bool := decide (a = b)
def usedB (o t s g l x b e w n m : Bool) : Int :=
 note m 1024 <| note n 512 <| note w 256 <| note e 128 <| note b 64 <| note x 32 <| note l 16 <| note g 8 <| note s 4 <| note t 2 <| note o 1 0
def outB (o t s g l x b e w n m : Bool) : Ru → Bool
 | .begin => o && t && s && g && l && b && e && w
 | .post => o && t && w && n && m
 | .reply => t && w && n && m
 | .about => t && s && g && l && x && b && e && w && n && m
 | .tie => o && s && g && l && x && b && e && w && n && m
 | .reason => t && s && g && l && b && e && w && n && m
 | .circle => o && t && s && x && b && e && w && n && m
 | .grant => o && t && x && b && n && m
 | .label => s && g && l && b && e && w && n && m
 | .move => o && t && s && g && l && x && b && e && w
 | .setup => o && t && s && g && x && b && e
 | .judge => t && s && g && l && x && b && e && w && m
 | .list => o && s && g && l && b && e && w && m
theorem mask_eq (r : Ru) : ∀ o t s g l x b e w n m : Bool, decide (Go.bits .andNot .i64 (usedB o t s g l x b e w n m) r.mask = 0) = outB o t s g l x b e w n m r := by
 cases r <;> decide +kernel
def out (a : Act) (r : Ru) : Bool := outB (decide (a.object = [])) (decide (a.target = [])) (decide (a.scope = 0)) (decide (a.group = [])) (decide (a.to = [])) (decide (a.text = [])) (decide (a.body = box0)) (decide (a.epoch = 0)) (decide (a.wraps = [])) (decide (a.n = 0)) (decide (a.m = 0)) r
theorem right_iff {a : Act} : right a = true ↔ idR a.author = true ∧ placed a = true ∧ wi a.time 0 1099511627776 = true ∧ sigR a.sig = true ∧ ∃ r, rule a.kind = some r ∧ out a r = true ∧ r.ok a = true := by
 unfold right
 cases h : rule a.kind with
 | none => simp
 | some r =>
  have e : decide (Go.bits .andNot .i64 (used a) r.mask = 0) = out a r := mask_eq r _ _ _ _ _ _ _ _ _ _ _
  simp only [e, Bool.and_eq_true, and_assoc, Option.some.injEq, exists_eq_left']
theorem rule_mem {k : Int} {r : Ru} (h : rule k = some r) : (k, r) ∈ ruleL := by
 unfold rule at h
 generalize ruleL = l at h ⊢
 induction l with
 | nil => cases h
 | cons p l ih =>
  obtain ⟨j, s⟩ := p
  rw [List.lookup_cons] at h
  by_cases e : k = j
  ·subst e
   simp at h
   subst h
   simp
  ·rw [show (k == j) = false by simpa using e] at h
   exact List.mem_cons_of_mem _ (ih h)
theorem rule_range {k : Int} {r : Ru} (h : rule k = some r) : 0 ≤ k ∧ k ≤ 23 := by
 have := rule_mem h
 simp only [ruleL, List.mem_cons, Prod.mk.injEq, List.not_mem_nil, or_false] at this
 omega
theorem rule_none {k : Int} (h : k < 0 ∨ 23 < k) : rule k = none := by
 cases e : rule k with
 | none => rfl
 | some r => have := rule_range e; omega
theorem idR_len {s : By} (h : idR s = true) : s.length = 16 := by simp only [idR, Bool.and_eq_true, decide_eq_true_eq] at h; exact h.1
theorem nameR_len {s : By} (h : nameR s = true) : s.length ≤ 24 := by
 cases s with
 | nil => cases h
 | cons c r => simp only [nameR, Bool.and_eq_true, decide_eq_true_eq] at h; simp only [List.length_cons]; omega
theorem idsR_len {l : List By} (h : idsR l = true) : l.length ≤ 64 ∧ ∀ s ∈ l, s.length = 16 := by
 simp only [idsR, Bool.and_eq_true, decide_eq_true_eq, List.all_eq_true] at h
 exact ⟨h.1.1, fun s hs => idR_len (h.1.2 s hs)⟩
theorem sealedSc_len {sc : Int} {g : By} (h : sealedSc sc g = true) : g.length ≤ 24 ∧ 1 ≤ sc ∧ sc ≤ 3 := by
 unfold sealedSc at h
 split at h
 ·exact ⟨nameR_len h, by omega, by omega⟩
 ·split at h
  ·have h := of_decide_eq_true h; subst h; exact ⟨by simp, by omega, by omega⟩
  ·cases h
theorem sealedB_len {b : Box} (h : sealedB b = true) : b.nonce.length = 32 ∧ b.tag.length = 16 ∧ b.data.length ≤ 500 := by
 simp only [sealedB, short, Bool.and_eq_true, decide_eq_true_eq] at h
 exact ⟨h.1.1, h.1.2, h.2⟩
structure Sm (a : Act) : Prop where
 author : a.author.length ≤ 16
 seq : 0 ≤ a.seq ∧ a.seq ≤ 1073741824
 prev : a.prev.length ≤ 32
 kind : 0 ≤ a.kind ∧ a.kind ≤ 23
 time : 0 ≤ a.time ∧ a.time ≤ 1099511627776
 object : a.object.length ≤ 32
 target : a.target.length ≤ 16
 scope : 0 ≤ a.scope ∧ a.scope ≤ 3
 group : a.group.length ≤ 24
 to : a.to.length ≤ 64 ∧ ∀ s ∈ a.to, s.length = 16
 text : a.text.length ≤ 500
 body : a.body.nonce.length ≤ 32 ∧ a.body.data.length ≤ 500 ∧ a.body.tag.length ≤ 16
 epoch : 0 ≤ a.epoch ∧ a.epoch ≤ 1073741824
 wraps : a.wraps.length ≤ 64 ∧ ∀ w ∈ a.wraps, wrapR w = true
 n : 0 ≤ a.n ∧ a.n ≤ 2305843009213693950
 m : 0 ≤ a.m ∧ a.m ≤ 2305843009213693950
 sig : sigR a.sig = true
theorem dig_len {s : By} (h : dig s = true) : s.length ≤ 32 := by have := of_decide_eq_true h; omega
theorem short_len {s : By} (h : short s = true) : s.length ≤ 500 := of_decide_eq_true h
theorem wrapped_sm {a : Act} (h : wrapped a = true) (ht : a.to.length ≤ 64) : a.wraps.length ≤ 64 ∧ ∀ w ∈ a.wraps, wrapR w = true := by
 simp only [wrapped, Bool.and_eq_true, decide_eq_true_eq, List.all_eq_true] at h
 exact ⟨by omega, h.1⟩
structure Aud (a : Act) : Prop where
 scope : 0 ≤ a.scope ∧ a.scope ≤ 3
 group : a.group.length ≤ 24
 to : a.to.length ≤ 64 ∧ ∀ s ∈ a.to, s.length = 16
 text : a.text.length ≤ 500
 body : a.body.nonce.length ≤ 32 ∧ a.body.data.length ≤ 500 ∧ a.body.tag.length ≤ 16
 epoch : 0 ≤ a.epoch ∧ a.epoch ≤ 1073741824
theorem audience_sm {a : Act} (h : audience a = true) : Aud a := by
 unfold audience at h
 rw [Bool.and_eq_true] at h
 obtain ⟨h1, h2⟩ := h
 have h1 := idsR_len h1
 split at h2
 ·rename_i h0
  simp only [Bool.and_eq_true, decide_eq_true_eq] at h2
  obtain ⟨⟨⟨a1, a2⟩, a3⟩, a4⟩ := h2
  exact ⟨by omega, by rw [a1]; simp, h1, short_len a3, by rw [a4]; simp [box0], by omega⟩
 ·simp only [Bool.and_eq_true, decide_eq_true_eq, wi_iff] at h2
  obtain ⟨⟨⟨⟨_, a1⟩, a2⟩, a3⟩, a4⟩ := h2
  have b1 := sealedSc_len a1
  have b4 := sealedB_len a4
  exact ⟨by omega, b1.1, h1, by rw [a3]; simp, by omega, a2⟩
theorem right_sm {a : Act} (h : right a = true) : Sm a := by
 obtain ⟨h1, h2, h3, h4, r, h5, h6, h7⟩ := right_iff.1 h
 have k := rule_range h5
 have hp : a.prev.length ≤ 32 ∧ 0 ≤ a.seq ∧ a.seq ≤ 1073741824 := by
  unfold placed at h2
  split at h2
  ·simp only [Bool.and_eq_true, decide_eq_true_eq] at h2; rw [h2.2]; simp; omega
  ·simp only [Bool.and_eq_true, decide_eq_true_eq, wi_iff] at h2; have := dig_len h2.2; omega
 have h1 := idR_len h1
 rw [wi_iff] at h3
 clear h2
 cases r <;> simp only [out, outB, Bool.and_eq_true, decide_eq_true_eq] at h6 <;> simp only [Ru.ok, Bool.and_eq_true] at h7
 case begin =>
  obtain ⟨⟨⟨⟨⟨⟨⟨a1, a2⟩, a3⟩, a4⟩, a5⟩, a6⟩, a7⟩, a8⟩ := h6
  obtain ⟨b1, b2⟩ := h7
  simp only [home, pub, Bool.and_eq_true, wi_iff] at b2
  have := nameR_len b1
  exact ⟨by omega, hp.2, hp.1, k, h3, by simp [a1], by simp [a2], by omega, by simp [a4], by simp [a5], by omega, by simp [a6, box0], by omega, by simp [a8], by omega, by omega, h4⟩
 case post =>
  obtain ⟨⟨⟨⟨a1, a2⟩, a3⟩, a4⟩, a5⟩ := h6
  have c := audience_sm h7
  exact ⟨by omega, hp.2, hp.1, k, h3, by simp [a1], by simp [a2], c.scope, c.group, c.to, c.text, c.body, c.epoch, by simp [a3], by omega, by omega, h4⟩
 case reply =>
  obtain ⟨⟨⟨a2, a3⟩, a4⟩, a5⟩ := h6
  have c := audience_sm h7.2
  exact ⟨by omega, hp.2, hp.1, k, h3, dig_len h7.1, by simp [a2], c.scope, c.group, c.to, c.text, c.body, c.epoch, by simp [a3], by omega, by omega, h4⟩
 case about =>
  obtain ⟨⟨⟨⟨⟨⟨⟨⟨⟨a1, a2⟩, a3⟩, a4⟩, a5⟩, a6⟩, a7⟩, a8⟩, a9⟩, a10⟩ := h6
  exact ⟨by omega, hp.2, hp.1, k, h3, dig_len h7, by simp [a1], by omega, by simp [a3], by simp [a4], by simp [a5], by simp [a6, box0], by omega, by simp [a8], by omega, by omega, h4⟩
 case tie =>
  obtain ⟨⟨⟨⟨⟨⟨⟨⟨⟨a1, a2⟩, a3⟩, a4⟩, a5⟩, a6⟩, a7⟩, a8⟩, a9⟩, a10⟩ := h6
  have := idR_len h7
  exact ⟨by omega, hp.2, hp.1, k, h3, by simp [a1], by omega, by omega, by simp [a3], by simp [a4], by simp [a5], by simp [a6, box0], by omega, by simp [a8], by omega, by omega, h4⟩
 case reason =>
  obtain ⟨⟨⟨⟨⟨⟨⟨⟨a1, a2⟩, a3⟩, a4⟩, a6⟩, a7⟩, a8⟩, a9⟩, a10⟩ := h6
  exact ⟨by omega, hp.2, hp.1, k, h3, dig_len h7.1, by simp [a1], by omega, by simp [a3], by simp [a4], short_len h7.2, by simp [a6, box0], by omega, by simp [a8], by omega, by omega, h4⟩
 case circle =>
  obtain ⟨⟨⟨⟨⟨⟨⟨⟨a1, a2⟩, a3⟩, a5⟩, a6⟩, a7⟩, a8⟩, a9⟩, a10⟩ := h6
  have g := nameR_len h7.1
  exact ⟨by omega, hp.2, hp.1, k, h3, by simp [a1], by simp [a2], by omega, g, idsR_len h7.2, by simp [a5], by simp [a6, box0], by omega, by simp [a8], by omega, by omega, h4⟩
 case grant =>
  obtain ⟨⟨⟨⟨⟨a1, a2⟩, a5⟩, a6⟩, a9⟩, a10⟩ := h6
  simp only [grant, Bool.and_eq_true, wi_iff] at h7
  obtain ⟨⟨⟨b1, b2⟩, b3⟩, b4⟩ := h7
  have c1 := sealedSc_len b1
  have c3 := idsR_len b3
  exact ⟨by omega, hp.2, hp.1, k, h3, by simp [a1], by simp [a2], by omega, c1.1, c3, by simp [a5], by simp [a6, box0], b2, wrapped_sm b4 c3.1, by omega, by omega, h4⟩
 case label =>
  obtain ⟨⟨⟨⟨⟨⟨⟨a3, a4⟩, a5⟩, a6⟩, a7⟩, a8⟩, a9⟩, a10⟩ := h6
  simp only [label, Bool.and_eq_true, Bool.or_eq_true, decide_eq_true_eq] at h7
  have b1 := nameR_len h7.1
  have b2 : a.object.length ≤ 32 ∧ a.target.length ≤ 16 := by
   rcases h7.2 with ⟨x, y⟩ | ⟨x, y⟩
   ·exact ⟨dig_len x, by simp [y]⟩
   ·exact ⟨by simp [y], by have := idR_len x; omega⟩
  exact ⟨by omega, hp.2, hp.1, k, h3, b2.1, b2.2, by omega, by simp [a4], by simp [a5], by omega, by simp [a6, box0], by omega, by simp [a8], by omega, by omega, h4⟩
 case move =>
  obtain ⟨⟨⟨⟨⟨⟨⟨⟨a1, a2⟩, a3⟩, a4⟩, a5⟩, a6⟩, a7⟩, a8⟩, a9⟩ := h6
  simp only [home, pub, Bool.and_eq_true, wi_iff] at h7
  exact ⟨by omega, hp.2, hp.1, k, h3, by simp [a1], by simp [a2], by omega, by simp [a4], by simp [a5], by simp [a6], by simp [a7, box0], by omega, by simp [a9], by omega, by omega, h4⟩
 case setup =>
  obtain ⟨⟨⟨⟨⟨⟨a1, a2⟩, a3⟩, a4⟩, a6⟩, a7⟩, a8⟩ := h6
  simp only [setup, pub, Bool.and_eq_true, wi_iff, decide_eq_true_eq] at h7
  obtain ⟨⟨⟨⟨b0, b1⟩, b2⟩, b3⟩, b4⟩ := h7
  have c1 := idsR_len b1
  exact ⟨by omega, hp.2, hp.1, k, h3, by simp [a1], by simp [a2], by omega, by simp [a4], c1, by simp [a6], by simp [a7, box0], by omega, wrapped_sm b2 c1.1, by omega, by omega, h4⟩
 case judge =>
  obtain ⟨⟨⟨⟨⟨⟨⟨⟨a1, a2⟩, a3⟩, a4⟩, a5⟩, a6⟩, a7⟩, a8⟩, a10⟩ := h6
  rw [wi_iff] at h7
  exact ⟨by omega, hp.2, hp.1, k, h3, dig_len h7.1, by simp [a1], by omega, by simp [a3], by simp [a4], by simp [a5], by simp [a6, box0], by omega, by simp [a8], by omega, by omega, h4⟩
 case list =>
  obtain ⟨⟨⟨⟨⟨⟨⟨a1, a2⟩, a3⟩, a4⟩, a6⟩, a7⟩, a8⟩, a10⟩ := h6
  simp only [Bool.and_eq_true, wi_iff] at h7
  obtain ⟨⟨b1, b2⟩, b3⟩ := h7
  have := idR_len b1
  exact ⟨by omega, hp.2, hp.1, k, h3, by simp [a1], by omega, by omega, by simp [a3], by simp [a4], short_len b2, by simp [a6, box0], by omega, by simp [a8], by omega, by omega, h4⟩
def tailB (a : Act) (rest : By) : By :=
 text a.author ++ (numI a.seq ++ (text a.prev ++ (numI a.kind ++ (numI a.time ++ (text a.object ++ (text a.target ++ (numI a.scope ++ (text a.group ++ (list a.to ++ (text a.text ++ (boxB a.body ++ (numI a.epoch ++ (num a.wraps.length ++ ((a.wraps.map wrapB).flatten ++ (numI a.n ++ (numI a.m ++ (numI a.sig.e ++ (numI a.sig.s ++ rest))))))))))))))))))
theorem coreB_tail (a : Act) (rest : By) : coreB a ++ numI a.sig.e ++ numI a.sig.s ++ rest = text wAct ++ tailB a rest := by
 unfold coreB tailB
 simp only [List.append_assoc]
theorem numI_ne {n : Int} (h : 0 ≤ n) : numI n ≠ [] := by
 unfold numI
 rw [if_neg (by omega)]
 intro e
 have := num_len n.toNat
 rw [e] at this
 simp at this
theorem bytes_right {a : Act} (h : right a = true) : bytes a = text wAct ++ tailB a [] := by
 unfold bytes
 rw [if_pos h, ← coreB_tail, List.append_nil]
theorem bytes_ne {a : Act} (h : right a = true) : bytes a ≠ [] := by
 rw [bytes_right h]
 simp [text, num_small]
theorem bytes_wrong {a : Act} (h : right a = false) : bytes a = [] ∧ core a = [] := by
 unfold bytes core
 simp [h]
theorem core_ne {a : Act} (h : right a = true) : core a ≠ [] := by
 unfold core coreB
 rw [if_pos h]
 simp [text, num_small]
theorem bytes_core (a : Act) : bytes a = if core a = [] then [] else core a ++ numI a.sig.e ++ numI a.sig.s := by
 cases h : right a with
 | false => rw [(bytes_wrong h).1, (bytes_wrong h).2]; rfl
 | true =>
  rw [if_neg (core_ne h)]
  unfold bytes core
  rw [if_pos h, if_pos h]
theorem right_sig (a : Act) (s : Sig) (hs : sigR s = true) (h : right a = true) : right { a with sig := s } = true := by
 obtain ⟨h1, h2, h3, h4, r, h5, h6, h7⟩ := right_iff.1 h
 refine right_iff.2 ⟨h1, h2, h3, hs, r, h5, h6, ?_⟩
 cases r <;> exact h7
end Go.Proofs.YtaphpbiaoofmkaaGreatDoor.Ac
end
section
namespace Go.Proofs.YtaphpbiaoofmkaaGreatDoor.Pe
open Go Co Ac
variable [Tab]
set_option maxRecDepth 100000
theorem dec_big (n b0 b1 b2 b3 : Nat) (h : 128 ≤ b0) : 128 ≤ (Lib.decodeN n b0 b1 b2 b3).1 := by
 unfold Lib.decodeN
 rw [if_neg (by omega)]
 split
 ·split
  ·assumption
  ·decide
 split
 ·split
  ·rename_i h; exact Nat.le_trans (by decide) h.1
  ·decide
 split
 ·split
  ·rename_i h; exact Nat.le_trans (by decide) h.1
  ·decide
 ·decide
theorem rune_at (l : By) (i : Nat) (h : i < l.length) : ∃ r w, runeAt l i = (r, w) ∧ (l[i].toNat < 128 → r = l[i].toNat ∧ w = 1) ∧ (128 ≤ l[i].toNat → 128 ≤ r) := by
 have hg : ((⟨l.toArray⟩ : ByteArray).get! i).toNat = l[i].toNat := by
  show (l.toArray[i]!).toNat = _
  rw [getElem!_pos l.toArray i (by simpa using h)]
  simp
 have e : ∃ n b1 b2 b3, runeAt l i = Lib.decodeN n l[i].toNat b1 b2 b3 := by
  unfold runeAt
  rw [Lib.decode_at, hg]
  exact ⟨_, _, _, _, rfl⟩
 obtain ⟨n, b1, b2, b3, e⟩ := e
 refine ⟨(runeAt l i).1, (runeAt l i).2, rfl, fun hb => ?_, fun hb => ?_⟩
 ·rw [e]
  unfold Lib.decodeN
  rw [if_pos hb]
  exact ⟨rfl, rfl⟩
 ·rw [e]
  exact dec_big _ _ _ _ _ hb
theorem isdigit_c (n : Int) : AC Tryz.prog 207 [.it .i32 n] [] (.bo (decide (48 ≤ n) && decide (n ≤ 57))) [] := by
 refine AC.enter [] [] Tryz.func207 rfl (by decide) (by decide) (Nat.le_of_ble_eq_true rfl) (by kernel_rfl) ?_; simp only [eraseC, eraseO, List.map_cons, List.map_nil, List.map_toArray, List.getElem?_toArray, List.getElem?_cons_zero, List.getElem?_cons_succ, Option.bind_some, Option.bind_none, List.append_eq, List.cons_append, List.nil_append]
 by_cases h : 48 ≤ n
 ·rw [decide_eq_true h]
  refine run ?_
  exact er0
 ·rw [decide_eq_false h]
  refine run ?_
  exact er0
theorem idright_c (s : By) (hs : s.length ≤ 140737488355328) : AC Tryz.prog 108 [.st s] [] (.bo (idR s)) [] := by
 refine AC.enter [207] [] Tryz.func108 rfl (by decide) (by decide) (Nat.le_of_ble_eq_true rfl) (by kernel_rfl) ?_; simp only [eraseC, eraseO, List.map_cons, List.map_nil, List.map_toArray, List.getElem?_toArray, List.getElem?_cons_zero, List.getElem?_cons_succ, Option.bind_some, Option.bind_none, List.append_eq, List.cons_append, List.nil_append]
 unfold idR
 by_cases hl : s.length = 16
 rotate_left
 ·rw [decide_eq_false hl]
  refine run ?_
  exact er0
 rw [decide_eq_true hl]
 refine run ?_
 refine loop_mk (fun m e S => e 0 = .st s ∧ e 9 = .ptr 0 0 ∧ ∃ k : Nat, S = [.siter s k] ∧ k ≤ s.length ∧ (s.take k).all hexc = true ∧ m = s.length - k) s.length ⟨(by first | rfl | (simp only [↓upd_apply, ↓put_some, ↓reduceIte, Nat.reduceEqDiff, ↓argEnv_zero, ↓argEnv_succ, *]; done)), (by first | rfl | (simp only [↓upd_apply, ↓put_some, ↓reduceIte, Nat.reduceEqDiff, ↓argEnv_zero, ↓argEnv_succ, *]; done)), 0, rfl, by omega, rfl, rfl⟩ ?_
 rintro m e S ⟨s0, s9, k, rfl, hk, hall, rfl⟩
 by_cases hlt : k < s.length
 rotate_left
 ·obtain rfl : k = s.length := by omega
  rw [List.take_length] at hall
  rw [hall]
  refine runf (an @s0 (an @s9 @hlt)) ?_
  exact er0
 obtain ⟨r, w, hr, h1, h2⟩ := rune_at s k hlt
 have hx : hexc s[k] = true ↔ (48 ≤ r ∧ r ≤ 57) ∨ (97 ≤ r ∧ r ≤ 102) := by
  unfold hexc
  simp only [Bool.or_eq_true, Bool.and_eq_true, decide_eq_true_eq]
  by_cases h : s[k].toNat < 128
  ·rw [(h1 h).1]
  ·have := h2 (by omega); omega
 have hstep : s.take (k + 1) = s.take k ++ [s[k]] := List.take_succ_eq_append_getElem hlt
 have hbad : hexc s[k] = false → s.all hexc = false := fun h => List.all_eq_false.2 ⟨s[k], List.getElem_mem hlt, by simp [h]⟩
 have hgood : hexc s[k] = true → w = 1 := fun h => by
  refine (h1 ?_).2
  refine Nat.lt_of_not_le fun h' => ?_
  have := h2 h'
  have := hx.1 h
  omega
 generalize s[k] = b at *
 clear h1 h2
 cases hb : hexc b with
 | true =>
  obtain rfl := hgood hb
  have hc := hx.1 hb
  refine runf (an @s0 (an @s9 (an @hlt @hr))) ?_
  refine cp (isdigit_c r) ?_
  rcases hc with ⟨c1, c2⟩ | ⟨c1, c2⟩
  ·refine runf (an @s0 @s9) ?_
   exact round_mk (s.length - (k + 1)) (by omega) ⟨(by first | rfl | (simp only [↓upd_apply, ↓put_some, ↓reduceIte, Nat.reduceEqDiff, ↓argEnv_zero, ↓argEnv_succ, *]; done)), (by first | rfl | (simp only [↓upd_apply, ↓put_some, ↓reduceIte, Nat.reduceEqDiff, ↓argEnv_zero, ↓argEnv_succ, *]; done)), k + 1, rfl, by omega, by rw [hstep, List.all_append, hall]; simp [hb], rfl⟩
  ·refine runf (an @s0 @s9) ?_
   exact round_mk (s.length - (k + 1)) (by omega) ⟨(by first | rfl | (simp only [↓upd_apply, ↓put_some, ↓reduceIte, Nat.reduceEqDiff, ↓argEnv_zero, ↓argEnv_succ, *]; done)), (by first | rfl | (simp only [↓upd_apply, ↓put_some, ↓reduceIte, Nat.reduceEqDiff, ↓argEnv_zero, ↓argEnv_succ, *]; done)), k + 1, rfl, by omega, by rw [hstep, List.all_append, hall]; simp [hb], rfl⟩
 | false =>
  rw [hbad hb]
  have hc : ¬ ((48 ≤ r ∧ r ≤ 57) ∨ (97 ≤ r ∧ r ≤ 102)) := fun h => by rw [hx.2 h] at hb; cases hb
  clear hbad hgood hx
  refine runf (an @s0 (an @s9 (an @hlt @hr))) ?_
  refine cp (isdigit_c r) ?_
  by_cases c1 : r < 48
  ·refine runf (an @s0 @s9) ?_
   exact er0
  by_cases c2 : r < 97
  ·refine runf (an @s0 @s9) ?_
   exact er0
  ·refine runf (an @s0 @s9) ?_
   exact er0
theorem nameR_false {s : By} {k : Nat} (hk : k < s.length) (h : (if k = 0 then letter s[k] else namec s[k]) = false) : nameR s = false := by
 cases s with
 | nil => rfl
 | cons c r =>
  show (decide (r.length ≤ 23) && letter c && r.all namec) = false
  cases k with
  | zero => simp at h; simp [h]
  | succ k =>
   simp only [List.getElem_cons_succ, Nat.add_one_ne_zero, if_false] at h
   have : r.all namec = false := List.all_eq_false.2 ⟨_, List.getElem_mem (by simpa using hk), by rw [h]; simp⟩
   rw [this]
   simp
theorem nameR_true {s : By} (h0 : 0 < s.length) (hl : s.length ≤ 24) (h : ∀ j (hj : j < s.length), (if j = 0 then letter s[j] else namec s[j]) = true) : nameR s = true := by
 cases s with
 | nil => simp at h0
 | cons c r =>
  show (decide (r.length ≤ 23) && letter c && r.all namec) = true
  have h1 := h 0 (by simp)
  simp only [List.getElem_cons_zero, if_true] at h1
  have h2 : r.all namec = true := List.all_eq_true.2 fun x hx => by
   obtain ⟨j, hj, rfl⟩ := List.getElem_of_mem hx
   have := h (j + 1) (by simp; omega)
   simpa using this
  simp only [List.length_cons] at hl
  rw [h1, h2, decide_eq_true (by omega)]
  rfl
theorem nameR_long {s : By} (h : 24 < s.length) : nameR s = false := by
 cases s with
 | nil => rfl
 | cons c r =>
  simp only [List.length_cons] at h
  show (decide (r.length ≤ 23) && letter c && r.all namec) = false
  rw [decide_eq_false (by omega)]
  rfl
set_option maxHeartbeats 1600000 in
theorem name_c (s : By) (hs : s.length ≤ 140737488355328) : AC Tryz.prog 216 [.st s] [] (.bo (nameR s)) [] := by
 refine AC.enter [207] [] Tryz.func216 rfl (by decide) (by decide) (Nat.le_of_ble_eq_true rfl) (by kernel_rfl) ?_; simp only [eraseC, eraseO, List.map_cons, List.map_nil, List.map_toArray, List.getElem?_toArray, List.getElem?_cons_zero, List.getElem?_cons_succ, Option.bind_some, Option.bind_none, List.append_eq, List.cons_append, List.nil_append]
 by_cases h0 : s = []
 ·subst h0
  rw [show nameR [] = false from rfl]
  refine run ?_
  exact er0
 have hne : (s == []) = false := by simpa using h0
 have hpos : 0 < s.length := List.length_pos_iff.2 h0
 by_cases hl : 24 < s.length
 ·rw [nameR_long hl]
  refine runf @hne ?_
  exact er0
 refine runf @hne ?_
 refine loop_mk (fun m e S => e 0 = .st s ∧ e 14 = .ptr 0 0 ∧ ∃ k : Nat, S = [.siter s k] ∧ k ≤ s.length ∧ (∀ j (hj : j < s.length), j < k → (if j = 0 then letter s[j] else namec s[j]) = true) ∧ m = s.length - k) s.length ⟨(by first | rfl | (simp only [↓upd_apply, ↓put_some, ↓reduceIte, Nat.reduceEqDiff, ↓argEnv_zero, ↓argEnv_succ, *]; done)), (by first | rfl | (simp only [↓upd_apply, ↓put_some, ↓reduceIte, Nat.reduceEqDiff, ↓argEnv_zero, ↓argEnv_succ, *]; done)), 0, rfl, by omega, fun j _ h => absurd h (Nat.not_lt_zero _), rfl⟩ ?_
 rintro m e S ⟨s0, s14, k, rfl, hk, hall, rfl⟩
 by_cases hlt : k < s.length
 rotate_left
 ·rw [nameR_true hpos (by omega) fun j hj => hall j hj (by omega)]
  refine runf (an @s0 (an @s14 @hlt)) ?_
  exact er0
 obtain ⟨r, w, hr, h1, h2⟩ := rune_at s k hlt
 have hx : (if k = 0 then letter s[k] else namec s[k]) = true ↔ (97 ≤ r ∧ r ≤ 122) ∨ (k ≠ 0 ∧ ((48 ≤ r ∧ r ≤ 57) ∨ r = 95)) := by
  have h3 : s[k].toNat = r ∨ (128 ≤ s[k].toNat ∧ 128 ≤ r) := by
   by_cases h : s[k].toNat < 128
   ·exact .inl (h1 h).1.symm
   ·exact .inr ⟨by omega, h2 (by omega)⟩
  split
  ·rename_i hk0
   simp only [letter, Bool.and_eq_true, decide_eq_true_eq]
   omega
  ·rename_i hk0
   simp only [namec, letter, Bool.or_eq_true, Bool.and_eq_true, decide_eq_true_eq]
   omega
 have hbad := fun h => nameR_false (s := s) (k := k) hlt h
 have hgood : (if k = 0 then letter s[k] else namec s[k]) = true → w = 1 := fun h => by
  refine (h1 ?_).2
  refine Nat.lt_of_not_le fun h' => ?_
  have := h2 h'
  have := hx.1 h
  omega
 have hnext : (if k = 0 then letter s[k] else namec s[k]) = true → ∀ j (hj : j < s.length), j < k + 1 → (if j = 0 then letter s[j] else namec s[j]) = true := fun h j hj hjk => by
  by_cases e : j = k
  ·subst e; exact h
  ·exact hall j hj (by omega)
 generalize (if k = 0 then letter s[k] else namec s[k]) = b at *
 clear h1 h2
 cases b with
 | true =>
  obtain rfl := hgood rfl
  have hc := hx.1 rfl
  have hn := hnext rfl
  clear hbad hgood hx hnext
  rcases hc with c1 | ⟨c0, c1⟩
  ·refine runf (an @s0 (an @s14 (an @hlt @hr))) ?_
   exact round_mk (s.length - (k + 1)) (by omega) ⟨(by first | rfl | (simp only [↓upd_apply, ↓put_some, ↓reduceIte, Nat.reduceEqDiff, ↓argEnv_zero, ↓argEnv_succ, *]; done)), (by first | rfl | (simp only [↓upd_apply, ↓put_some, ↓reduceIte, Nat.reduceEqDiff, ↓argEnv_zero, ↓argEnv_succ, *]; done)), k + 1, rfl, by omega, hn, rfl⟩
  ·have c00 : ¬ ((k : Int) = 0) := by omega
   by_cases cl : r < 97
   focus
    refine runf (an @s0 (an @s14 (an @hlt @hr))) ?_
    refine cp (isdigit_c r) ?_
    rcases c1 with c1 | c1
    ·refine runf (an @s0 @s14) ?_
     exact round_mk (s.length - (k + 1)) (by omega) ⟨(by first | rfl | (simp only [↓upd_apply, ↓put_some, ↓reduceIte, Nat.reduceEqDiff, ↓argEnv_zero, ↓argEnv_succ, *]; done)), (by first | rfl | (simp only [↓upd_apply, ↓put_some, ↓reduceIte, Nat.reduceEqDiff, ↓argEnv_zero, ↓argEnv_succ, *]; done)), k + 1, rfl, by omega, hn, rfl⟩
    ·subst c1
     refine runf (an @s0 @s14) ?_
     exact round_mk (s.length - (k + 1)) (by omega) ⟨(by first | rfl | (simp only [↓upd_apply, ↓put_some, ↓reduceIte, Nat.reduceEqDiff, ↓argEnv_zero, ↓argEnv_succ, *]; done)), (by first | rfl | (simp only [↓upd_apply, ↓put_some, ↓reduceIte, Nat.reduceEqDiff, ↓argEnv_zero, ↓argEnv_succ, *]; done)), k + 1, rfl, by omega, hn, rfl⟩
   exact absurd c1 (by omega)
 | false =>
  rw [hbad rfl]
  have hc : ¬ ((97 ≤ r ∧ r ≤ 122) ∨ (k ≠ 0 ∧ ((48 ≤ r ∧ r ≤ 57) ∨ r = 95))) := fun h => by have := hx.2 h; cases this
  clear hbad hgood hx hnext hall
  by_cases hk0 : k = 0
  ·subst hk0
   by_cases c1 : r < 97
   ·refine runf (an @s0 (an @s14 (an @hlt @hr))) ?_
    exact er0
   ·refine runf (an @s0 (an @s14 (an @hlt @hr))) ?_
    exact er0
  by_cases c1 : r < 97
  focus
   refine runf (an @s0 (an @s14 (an @hlt @hr))) ?_
   refine cp (isdigit_c r) ?_
   by_cases c2 : r < 48
   ·refine runf (an @s0 @s14) ?_
    exact er0
   ·refine runf (an @s0 @s14) ?_
    exact er0
  focus
   refine runf (an @s0 (an @s14 (an @hlt @hr))) ?_
   refine cp (isdigit_c r) ?_
   refine runf (an @s0 @s14) ?_
   exact er0
theorem asc_true : ∀ {l : List By}, (∀ j (h : j + 1 < l.length), (Op.bytesLess l[j + 1] l[j] || l[j + 1] == l[j]) = false) → asc l = true
 | [], _ => rfl
 | [_], _ => rfl
 | a :: b :: r, h => by
  unfold asc
  have h0 := h 0 (by simp)
  simp only [List.getElem_cons_succ, List.getElem_cons_zero] at h0
  rw [h0, asc_true fun j hj => by
   have := h (j + 1) (by simp at hj ⊢; omega)
   simpa using this]
  rfl
theorem asc_false : ∀ {l : List By} {j : Nat} (h : j + 1 < l.length), (Op.bytesLess l[j + 1] l[j] || l[j + 1] == l[j]) = true → asc l = false
 | [], _, h, _ => by simp at h
 | [_], _, h, _ => by simp at h
 | a :: b :: r, 0, _, h => by
  simp only [List.getElem_cons_succ, List.getElem_cons_zero] at h
  unfold asc
  rw [h]
  rfl
 | a :: b :: r, j + 1, hj, h => by
  unfold asc
  rw [asc_false (l := b :: r) (j := j) (by simp at hj ⊢; omega) (by simpa using h)]
  simp
set_option maxHeartbeats 1600000 in
theorem ids_c (l : List By) (hs : ∀ s ∈ l, s.length ≤ 140737488355328) (hl : l.length ≤ 140737488355328) : AC Tryz.prog 219 [sls l] [] (.bo (idsR l)) [] := by
 refine AC.enter [108] [] Tryz.func219 rfl (by decide) (by decide) (Nat.le_of_ble_eq_true rfl) (by kernel_rfl) ?_; simp only [eraseC, eraseO, List.map_cons, List.map_nil, List.map_toArray, List.getElem?_toArray, List.getElem?_cons_zero, List.getElem?_cons_succ, Option.bind_some, Option.bind_none, List.append_eq, List.cons_append, List.nil_append]
 unfold idsR
 by_cases h64 : l.length ≤ 64
 rotate_left
 ·rw [decide_eq_false h64]
  refine run ?_
  exact er0
 rw [decide_eq_true h64]
 refine run ?_
 refine loop_mk (fun m e S => S = [] ∧ e 0 = sls l ∧ e 8 = sls l ∧ e 9 = .it .i64 (l.length : Int) ∧ ∃ k : Nat, e 10 = .it .i64 (k : Int) ∧ k ≤ l.length ∧ (∀ j (h : j < l.length), j < k → idR l[j] = true) ∧
  (∀ j (h : j + 1 < l.length), j + 1 < k → (Op.bytesLess l[j + 1] l[j] || l[j + 1] == l[j]) = false) ∧ m = l.length - k) l.length ⟨rfl, (by first | rfl | (simp only [↓upd_apply, ↓put_some, ↓reduceIte, Nat.reduceEqDiff, ↓argEnv_zero, ↓argEnv_succ, *]; done)), (by first | rfl | (simp only [↓upd_apply, ↓put_some, ↓reduceIte, Nat.reduceEqDiff, ↓argEnv_zero, ↓argEnv_succ, *]; done)), (by first | rfl | (simp only [↓upd_apply, ↓put_some, ↓reduceIte, Nat.reduceEqDiff, ↓argEnv_zero, ↓argEnv_succ, *]; done)), 0, (by first | rfl | (simp only [↓upd_apply, ↓put_some, ↓reduceIte, Nat.reduceEqDiff, ↓argEnv_zero, ↓argEnv_succ, *]; done)), by omega, fun j _ h => absurd h (Nat.not_lt_zero _), fun j _ h => absurd h (Nat.not_lt_zero _), rfl⟩ ?_
 rintro m e S ⟨rfl, s0, s8, s9, k, s10, hk, hid, hasc, rfl⟩
 by_cases hlt : k < l.length
 rotate_left
 ·obtain rfl : k = l.length := by omega
  have h1 : l.all idR = true := List.all_eq_true.2 fun x hx => by
   obtain ⟨j, hj, rfl⟩ := List.getElem_of_mem hx
   exact hid j hj hj
  rw [h1, asc_true fun j h => hasc j h h]
  refine runf (an @s0 (an @s8 (an @s9 @s10))) ?_
  exact er0
 have hg : l[k]? = some l[k] := List.getElem?_eq_getElem hlt
 have hsk := hs l[k] (List.getElem_mem hlt)
 refine runf (an @s0 (an @s8 (an @s9 (an @s10 @hg)))) ?_
 refine cp (idright_c l[k] hsk) ?_
 cases hb : idR l[k] with
 | false =>
  have : l.all idR = false := List.all_eq_false.2 ⟨l[k], List.getElem_mem hlt, by simp [hb]⟩
  rw [this]
  refine runf (an @s0 (an @s8 (an @s9 @s10))) ?_
  exact er0
 | true =>
  have hid' : ∀ j (h : j < l.length), j < k + 1 → idR l[j] = true := fun j h hj => by
   by_cases e : j = k
   ·subst e; exact hb
   ·exact hid j h (by omega)
  cases k with
  | zero =>
   refine runf (an @s0 (an @s8 (an @s9 (an @s10 @hg)))) ?_
   exact round_mk (l.length - 1) (by omega) ⟨rfl, (by first | rfl | (simp only [↓upd_apply, ↓put_some, ↓reduceIte, Nat.reduceEqDiff, ↓argEnv_zero, ↓argEnv_succ, *]; done)), (by first | rfl | (simp only [↓upd_apply, ↓put_some, ↓reduceIte, Nat.reduceEqDiff, ↓argEnv_zero, ↓argEnv_succ, *]; done)), (by first | rfl | (simp only [↓upd_apply, ↓put_some, ↓reduceIte, Nat.reduceEqDiff, ↓argEnv_zero, ↓argEnv_succ, *]; done)), 1, (by first | rfl | (simp only [↓upd_apply, ↓put_some, ↓reduceIte, Nat.reduceEqDiff, ↓argEnv_zero, ↓argEnv_succ, *]; done)), by omega, hid', fun j _ h => by omega, rfl⟩
  | succ k =>
   have hg' : l[k]? = some l[k] := List.getElem?_eq_getElem (by omega)
   have hc : ((k + 1 : Nat) : Int) - 1 = (k : Int) := by omega
   have hpos : (0 : Int) < ((k + 1 : Nat) : Int) := by omega
   cases hcmp : (Op.bytesLess l[k + 1] l[k] || l[k + 1] == l[k]) with
   | true =>
    rw [asc_false (j := k) hlt hcmp, Bool.and_false]
    refine runf (an @s0 (an @s8 (an @s9 (an @s10 (an @hg (an @hg' (an @hc @hcmp))))))) ?_
    exact er0
   | false =>
    refine runf (an @s0 (an @s8 (an @s9 (an @s10 (an @hg (an @hg' (an @hc @hcmp))))))) ?_
    exact round_mk (l.length - (k + 1 + 1)) (by omega) ⟨rfl, (by first | rfl | (simp only [↓upd_apply, ↓put_some, ↓reduceIte, Nat.reduceEqDiff, ↓argEnv_zero, ↓argEnv_succ, *]; done)), (by first | rfl | (simp only [↓upd_apply, ↓put_some, ↓reduceIte, Nat.reduceEqDiff, ↓argEnv_zero, ↓argEnv_succ, *]; done)), (by first | rfl | (simp only [↓upd_apply, ↓put_some, ↓reduceIte, Nat.reduceEqDiff, ↓argEnv_zero, ↓argEnv_succ, *]; done)), k + 1 + 1, (by first | rfl | (simp only [↓upd_apply, ↓put_some, ↓reduceIte, Nat.reduceEqDiff, ↓argEnv_zero, ↓argEnv_succ, *]; done)), by omega, hid', fun j h hj => by
     by_cases e : j = k
     ·subst e; exact hcmp
     ·exact hasc j h (by omega), rfl⟩
end Go.Proofs.YtaphpbiaoofmkaaGreatDoor.Pe
end
section
namespace Go.Proofs.YtaphpbiaoofmkaaGreatDoor.Pe
open Go
variable [Tab]
set_option maxRecDepth 100000
def blen (n : Nat) : Nat := if n = 0 then 0 else Nat.log2 n + 1
theorem blen_shift {n s : Nat} (h : 2 ^ s ≤ n) : blen n = blen (n / 2 ^ s) + s := by
 have hp : 0 < 2 ^ s := Nat.pow_pos (by omega)
 have h1 : 0 < n / 2 ^ s := Nat.div_pos h hp
 unfold blen
 rw [if_neg (by omega), if_neg (by omega)]
 have e : Nat.log2 n = Nat.log2 (n / 2 ^ s) + s := by
  have h2 := (Nat.log2_eq_iff (n := n / 2 ^ s) (k := Nat.log2 (n / 2 ^ s)) (by omega)).1 rfl
  refine (Nat.log2_eq_iff (by omega)).2 ⟨?_, ?_⟩
  ·rw [Nat.pow_add]
   exact (Nat.le_div_iff_mul_le hp).1 h2.1
  ·rw [show Nat.log2 (n / 2 ^ s) + s + 1 = (Nat.log2 (n / 2 ^ s) + 1) + s from by omega, Nat.pow_add]
   exact (Nat.div_lt_iff_lt_mul hp).1 h2.2
 omega
theorem shr_lit (n : Nat) (b : Int) (s : Nat) (h : b = (s : Int)) (h' : s ≤ 64) : aShr .u64 (n : Int) b = some (.it .u64 ((n / 2 ^ s : Nat) : Int)) := by
 subst h
 unfold aShr
 rw [if_pos (by omega)]
 congr 2
 rw [Int.toNat_natCast, show min s IntKind.u64.bits = s from Nat.min_eq_left h']
 rw [Int.fdiv_eq_ediv_of_nonneg _ (by exact Int.le_of_lt (Int.pow_pos (by omega)))]
 norm_cast
theorem u8_small (x : Nat) (h : x < 256) : IntKind.u8.wrap (x : Int) = (x : Int) := by
 rw [wrap8n]
 simp; omega
theorem blen_le (x : Nat) : blen x ≤ x + 1 := by
 unfold blen
 split
 ·omega
 ·have := Nat.log2_lt (n := x) (k := x) (by assumption)
  have := this.2 Nat.lt_two_pow_self
  omega
theorem tab_idx (L : List UInt8) (hL : ∀ x, x < 256 → L[x]? = some (UInt8.ofNat (blen x))) (x : Nat) (h : x < 256) : (if 0 ≤ (x : Int) then Option.map u8 L[x]? else none) = some (.it .u8 (blen x : Int)) := by
 rw [if_pos (by omega), hL x h]
 have : blen x < 256 := by
  have : blen x ≤ 8 := by
   unfold blen
   split
   ·omega
   ·have := (Nat.log2_lt (n := x) (k := 8) (by assumption)).2 (by omega)
    omega
  omega
 simp only [u8, Option.map_some]
 congr 2
 simp; omega
set_option maxHeartbeats 2000000 in
theorem len64_c (n : Nat) (h : n < 18446744073709551616) : AC Tryz.prog 268 [.it .u64 n] [] (.it .i64 (blen n)) [] := by
 have s8 : ∀ n : Nat, aShr .u64 (n : Int) 8 = some (.it .u64 ((n / 2 ^ 8 : Nat) : Int)) := fun n => shr_lit n 8 8 rfl (by omega)
 have s16 : ∀ n : Nat, aShr .u64 (n : Int) 16 = some (.it .u64 ((n / 2 ^ 16 : Nat) : Int)) := fun n => shr_lit n 16 16 rfl (by omega)
 have s32 : ∀ n : Nat, aShr .u64 (n : Int) 32 = some (.it .u64 ((n / 2 ^ 32 : Nat) : Int)) := fun n => shr_lit n 32 32 rfl (by omega)
 refine AC.enter [] [] Tryz.func268 rfl (by decide) (by decide) (Nat.le_of_ble_eq_true rfl) (by kernel_rfl) ?_; simp only [eraseC, eraseO, List.map_cons, List.map_nil, List.map_toArray, List.getElem?_toArray, List.getElem?_cons_zero, List.getElem?_cons_succ, Option.bind_some, Option.bind_none, List.append_eq, List.cons_append, List.nil_append]
 refine run ?_
 refine iteP_mk (fun h1 => ?_) (fun h1 => ?_)
 ·have l32 : 4294967296 ≤ n := by have := of_decide_eq_true h1; omega
  have e32 := blen_shift (n := n) (s := 32) l32
  have m32 : n / 2 ^ 32 < 4294967296 := by omega
  refine runf (an @s32 (an @s16 @s8)) ?_
  generalize n / 2 ^ 32 = x at *
  refine iteP_mk (fun h1 => ?_) (fun h1 => ?_)
  ·have l16 : 65536 ≤ x := by have := of_decide_eq_true h1; omega
   have e16 := blen_shift (n := x) (s := 16) l16
   have m16 : x / 2 ^ 16 < 65536 := by omega
   refine runf (an @s32 (an @s16 @s8)) ?_
   generalize x / 2 ^ 16 = y at *
   refine iteP_mk (fun h1 => ?_) (fun h1 => ?_)
   ·have l8 : 256 ≤ y := by have := of_decide_eq_true h1; omega
    have e8 := blen_shift (n := y) (s := 8) l8
    have m8 : y / 2 ^ 8 < 256 := by omega
    refine runf (an @s32 (an @s16 @s8)) ?_
    generalize y / 2 ^ 8 = z at *
    have t1 := u8_small z (by omega)
    have t3 := blen_le z
    refine runf @t1 ?_
    refine bindV_mk _ (tab_idx _ (by decide +kernel) z (by omega)) ?_
    refine runf @Int.zero_add ?_
    refine ends_ret0 (by rfl) (by rfl) ?_
    exact congrArg (AV.it .i64) (by omega)
   ·have l8 : y < 256 := by have := of_decide_eq_false h1; omega
    refine run ?_
    have t1 := u8_small y (by omega)
    have t3 := blen_le y
    refine runf @t1 ?_
    refine bindV_mk _ (tab_idx _ (by decide +kernel) y (by omega)) ?_
    refine runf @Int.zero_add ?_
    refine ends_ret0 (by rfl) (by rfl) ?_
    exact congrArg (AV.it .i64) (by omega)
  ·have l16 : x < 65536 := by have := of_decide_eq_false h1; omega
   refine run ?_
   refine iteP_mk (fun h1 => ?_) (fun h1 => ?_)
   ·have l8 : 256 ≤ x := by have := of_decide_eq_true h1; omega
    have e8 := blen_shift (n := x) (s := 8) l8
    have m8 : x / 2 ^ 8 < 256 := by omega
    refine runf (an @s32 (an @s16 @s8)) ?_
    generalize x / 2 ^ 8 = z at *
    have t1 := u8_small z (by omega)
    have t3 := blen_le z
    refine runf @t1 ?_
    refine bindV_mk _ (tab_idx _ (by decide +kernel) z (by omega)) ?_
    refine runf @Int.zero_add ?_
    refine ends_ret0 (by rfl) (by rfl) ?_
    exact congrArg (AV.it .i64) (by omega)
   ·have l8 : x < 256 := by have := of_decide_eq_false h1; omega
    refine run ?_
    have t1 := u8_small x (by omega)
    have t3 := blen_le x
    refine runf @t1 ?_
    refine bindV_mk _ (tab_idx _ (by decide +kernel) x (by omega)) ?_
    refine runf @Int.zero_add ?_
    refine ends_ret0 (by rfl) (by rfl) ?_
    exact congrArg (AV.it .i64) (by omega)
 ·have l32 : n < 4294967296 := by have := of_decide_eq_false h1; omega
  refine run ?_
  refine iteP_mk (fun h1 => ?_) (fun h1 => ?_)
  ·have l16 : 65536 ≤ n := by have := of_decide_eq_true h1; omega
   have e16 := blen_shift (n := n) (s := 16) l16
   have m16 : n / 2 ^ 16 < 65536 := by omega
   refine runf (an @s32 (an @s16 @s8)) ?_
   generalize n / 2 ^ 16 = y at *
   refine iteP_mk (fun h1 => ?_) (fun h1 => ?_)
   ·have l8 : 256 ≤ y := by have := of_decide_eq_true h1; omega
    have e8 := blen_shift (n := y) (s := 8) l8
    have m8 : y / 2 ^ 8 < 256 := by omega
    refine runf (an @s32 (an @s16 @s8)) ?_
    generalize y / 2 ^ 8 = z at *
    have t1 := u8_small z (by omega)
    have t3 := blen_le z
    refine runf @t1 ?_
    refine bindV_mk _ (tab_idx _ (by decide +kernel) z (by omega)) ?_
    refine runf @Int.zero_add ?_
    refine ends_ret0 (by rfl) (by rfl) ?_
    exact congrArg (AV.it .i64) (by omega)
   ·have l8 : y < 256 := by have := of_decide_eq_false h1; omega
    refine run ?_
    have t1 := u8_small y (by omega)
    have t3 := blen_le y
    refine runf @t1 ?_
    refine bindV_mk _ (tab_idx _ (by decide +kernel) y (by omega)) ?_
    refine runf @Int.zero_add ?_
    refine ends_ret0 (by rfl) (by rfl) ?_
    exact congrArg (AV.it .i64) (by omega)
  ·have l16 : n < 65536 := by have := of_decide_eq_false h1; omega
   refine run ?_
   refine iteP_mk (fun h1 => ?_) (fun h1 => ?_)
   ·have l8 : 256 ≤ n := by have := of_decide_eq_true h1; omega
    have e8 := blen_shift (n := n) (s := 8) l8
    have m8 : n / 2 ^ 8 < 256 := by omega
    refine runf (an @s32 (an @s16 @s8)) ?_
    generalize n / 2 ^ 8 = z at *
    have t1 := u8_small z (by omega)
    have t3 := blen_le z
    refine runf @t1 ?_
    refine bindV_mk _ (tab_idx _ (by decide +kernel) z (by omega)) ?_
    refine runf @Int.zero_add ?_
    refine ends_ret0 (by rfl) (by rfl) ?_
    exact congrArg (AV.it .i64) (by omega)
   ·have l8 : n < 256 := by have := of_decide_eq_false h1; omega
    refine run ?_
    have t1 := u8_small n (by omega)
    have t3 := blen_le n
    refine runf @t1 ?_
    refine bindV_mk _ (tab_idx _ (by decide +kernel) n (by omega)) ?_
    refine runf @Int.zero_add ?_
    refine ends_ret0 (by rfl) (by rfl) ?_
    exact congrArg (AV.it .i64) (by omega)
end Go.Proofs.YtaphpbiaoofmkaaGreatDoor.Pe
end
