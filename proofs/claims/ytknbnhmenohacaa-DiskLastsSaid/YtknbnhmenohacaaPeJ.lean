/- Appending as an operation; a string's bytes; an empty slice with room. Nothing of the program. -/
import Derived.Test.YtknbnhmenohacaaPeI
namespace Go.Proofs.Ytknbnhmenohacaa.Pe
set_option linter.unusedSectionVars false
set_option linter.unusedVariables false
set_option linter.unusedSimpArgs false
open Go Go.RowKit
variable [Tab]
section
variable {P : Program} {w : World} {g : Gh} {S : Store}
/-- a slice at the head of its own row -/
theorem own_rel {w : World} {g : Gh} {l b cap sz : Nat} {es : List AV} {us : List Value} (hl : l < g.nid) (hb : g.buf l = true) (hpl : g.pl l = b) (hwm : g.wm l = es.length) (hcp : g.cap l = cap) (hG : es.length * sz ≤ g.G b)
    (hsz : ∀ x ∈ es, x.cells.length = sz) (hcap : es.length ≤ cap) (hm : cap ≤ maxLen) (hus : CellsRel w g.noid (flat es) us.toArray) (hcell : ∀ j u, us[j]? = some u → w.cell? ⟨b, j, none⟩ = some u) :
    Rel w g (.sl (.own l) es) (.slice (some ⟨b, 0, none⟩) es.length cap) := by
  have hfl := flat_length hsz
  have hul : us.length = (flat es).length := by simpa using hus.1
  refine .sl _ (.own l) es _ _ sz (fun j => us.getD j undef) hcap hm hsz (fun _ => ⟨b, 0, rfl, fun j hj => ?_⟩) (fun j hj => ?_) (fun j u hu => ?_) ⟨hl, hb, by omega, .inr (.inr ⟨by rw [hpl], hcp.symm⟩)⟩
  · have hj' : j < us.length := by omega
    refine ⟨by omega, ?_⟩
    rw [Nat.zero_add]
    refine hcell j _ ?_
    simp [List.getD, List.getElem?_eq_getElem hj']
  · have hj' : j < us.length := by omega
    refine hus.2.1 _ ?_
    simp only [List.getD, List.getElem?_eq_getElem hj', Option.getD_some]
    exact List.getElem_mem hj'
  · have hj := (List.getElem?_eq_some_iff.1 hu).1
    have hj' : j < us.length := by omega
    exact hus.2.2 j u _ hu (by simp [List.getD, List.getElem?_eq_getElem hj'])
theorem new_row_cell {w : World} {cur : Array Value} {e : TypeId} {fr : Nat × Nat} {us : List Value} (ht : cur.toList.take us.length = us) (j : Nat) (u : Value) (hu : us[j]? = some u) :
    (w.alloc (.cells cur e fr)).cell? ⟨w.heap.size, j, none⟩ = some u := by
  rw [cell_of_row _ _ j cur e fr (heap_alloc_new w _)]
  rw [← ht, List.getElem?_take] at hu
  split at hu
  · simpa using hu
  · cases hu
theorem WF.new_buf (h : WF w g S) {es : List AV} {cur : Array Value} {e sz cap : Nat} {fr : Nat × Nat} (hsz0 : 0 < sz) (hsz : ∀ x ∈ es, x.cells.length = sz) (hcap : es.length ≤ cap) (hm : cap ≤ maxLen) (hcur : cur.size = cap * sz)
    (hfr : fr.2 ≤ fr.1 ∨ cur.size ≤ fr.1) (us : List Value) (hus : CellsRel w g.noid (flat es) us.toArray) (htake : cur.toList.take us.length = us) :
    ∃ g', WF (w.alloc (.cells cur e fr)) g' (S ++ [.buf es.length e sz]) ∧ Evo w g (w.alloc (.cells cur e fr)) g' ∧ Rel (w.alloc (.cells cur e fr)) g' (.sl (.own S.length) es) (.slice (some ⟨w.heap.size, 0, none⟩) es.length cap) := by
  have hle := Le.push_new w g (.cells cur e fr) true es.length cap (es.length * sz)
  obtain ⟨h1, h2⟩ := h.alloc_push (.cells cur e fr) true es.length cap (es.length * sz) (o := .buf es.length e sz) (by
    refine ⟨by simp [Gh.push], by simp [Gh.push], .inr ⟨by simp [Gh.push], hsz0, by simpa [Gh.push] using hcap, by simp [Gh.push], cur, fr, ?_, hfr, by simpa [Gh.push] using hcur⟩⟩
    simp only [Gh.push, if_true]
    exact heap_alloc_new w _)
  refine ⟨_, h1, h2, ?_⟩
  have hn := h.nid
  rw [← hn]
  exact own_rel (by simp [Gh.push]) (by simp [Gh.push]) (by simp [Gh.push]) (by simp [Gh.push]) (by simp [Gh.push]) (by simp [Gh.push]) hsz hcap hm (hus.le hle.noid) (fun j u hu => new_row_cell htake j u hu)
/-- the row of number l moved to a new block, grown -/
theorem WF.regrow (h : WF w g S) {l n : Nat} {es : List AV} {cur : Array Value} {e sz cap : Nat} {fr : Nat × Nat} (hS : S[l]? = some (.buf n e sz)) (hlt : n < es.length) (hsz0 : 0 < sz) (hsz : ∀ x ∈ es, x.cells.length = sz)
    (hcap : es.length ≤ cap) (hm : cap ≤ maxLen) (hcur : cur.size = cap * sz) (hfr : fr.2 ≤ fr.1 ∨ cur.size ≤ fr.1) (us : List Value) (hus : CellsRel w g.noid (flat es) us.toArray) (htake : cur.toList.take us.length = us) :
    ∃ g', WF (w.alloc (.cells cur e fr)) g' (S.set l (.buf es.length e sz)) ∧ Evo w g (w.alloc (.cells cur e fr)) g' ∧ Rel (w.alloc (.cells cur e fr)) g' (.sl (.own l) es) (.slice (some ⟨w.heap.size, 0, none⟩) es.length cap) := by
  have hlS : l < S.length := (List.getElem?_eq_some_iff.1 hS).1
  have hn := h.nid
  obtain ⟨hb, hwm, _⟩ := h.obj l _ hS
  let g' : Gh := { G := fun x => if x = w.heap.size then es.length * sz else g.G x, pl := fun k => if k = l then w.heap.size else g.pl k, own := fun k x => if k = l then x = w.heap.size else g.own k x, nid := g.nid, buf := g.buf, wm := fun k => if k = l then es.length else g.wm k, cap := fun k => if k = l then cap else g.cap k }
  have hle : Le w g (w.alloc (.cells cur e fr)) g' := by
    refine ⟨fun b o' v _ hv => ?_, fun b o' v hb hv => ?_, Nat.le_refl _, fun k hk => ⟨rfl, ?_⟩⟩
    · rw [World.cell?_alloc_lt w _ _ (World.block_lt_of_cell? w _ hv)]; exact hv
    · have := World.block_lt_of_cell? w _ hv
      show o' < (if b = w.heap.size then _ else g.G b)
      rw [if_neg (show b ≠ w.heap.size from Nat.ne_of_lt this)]; exact hb
    · by_cases hkl : k = l
      · subst hkl; exact .inr ⟨hb, by show g.wm k < (if k = k then _ else _); rw [if_pos rfl, hwm]; exact hlt⟩
      · exact .inl ⟨if_neg hkl, if_neg hkl, if_neg hkl⟩
  have hownl : ∀ b, g'.own l b → g.own l b ∨ (w.heap.size ≤ b ∧ b < (w.alloc (.cells cur e fr)).heap.size) := fun b hb => by
    have hb' : b = w.heap.size := by simpa [g'] using hb
    exact .inr ⟨by omega, by show b < (w.heap.push _).size; simp; omega⟩
  refine ⟨g', h.touch hlS hle rfl (fun k hk _ => ⟨if_neg hk, rfl, if_neg hk, if_neg hk, by funext x; exact if_neg hk⟩) hownl (by simp) (fun b hb _ => if_neg (Nat.ne_of_lt hb)) (fun b hb _ => heap_alloc_old w _ hb) ?_,
    ⟨hle, rfl, rfl, rfl, by simp, fun b hb _ => heap_alloc_old w _ hb, fun k b hk hb hlt' => ⟨hk, ?_⟩, fun b hb _ => if_neg (Nat.ne_of_lt hb)⟩, ?_⟩
  · refine ⟨hb, by simp [g'], .inr ⟨by simp [g'], hsz0, by simpa [g'] using hcap, by simp [g'], cur, fr, ?_, hfr, by simpa [g'] using hcur⟩⟩
    simp only [g', if_true]
    exact heap_alloc_new w _
  · by_cases hkl : k = l
    · subst hkl
      have hb' : b = w.heap.size := by simpa [g'] using hb
      omega
    · simpa [g', hkl] using hb
  · exact own_rel (by show l < g.nid; omega) hb (by simp [g']) (by simp [g']) (by simp [g']) (by simp [g']) hsz hcap hm (hus.le hle.noid) (fun j u hu => new_row_cell htake j u hu)
/-- the row of number l written behind its end -/
theorem WF.extend (h : WF w g S) {l n : Nat} {es ys : List AV} {cur : Array Value} {e sz : Nat} {fr : Nat × Nat} (hS : S[l]? = some (.buf n e sz)) (hn : es.length = n) (h0 : 0 < ys.length) (hcap0 : g.cap l ≠ 0)
    (hb : w.heap[g.pl l]? = some (.cells cur e fr)) (hroom : n + ys.length ≤ g.cap l) (hm : g.cap l ≤ maxLen) (hsz : ∀ x ∈ es ++ ys, x.cells.length = sz) (us vs : List Value) (htake : cur.toList.take (n * sz) = us)
    (hus : CellsRel w g.noid (flat es) us.toArray) (hvs : CellsRel w g.noid (flat ys) vs.toArray) :
    let w' := w.setRow (g.pl l) (cur.toList.take (n * sz) ++ vs ++ cur.toList.drop (n * sz + vs.length)).toArray
    ∃ g', WF w' g' (S.set l (.buf (n + ys.length) e sz)) ∧ Evo w g w' g' ∧ Rel w' g' (.sl (.own l) (es ++ ys)) (.slice (some ⟨g.pl l, 0, none⟩) (n + ys.length) (g.cap l)) := by
  intro w'
  have hlS : l < S.length := (List.getElem?_eq_some_iff.1 hS).1
  have hnid := h.nid
  obtain ⟨hbuf, hwm, hrow⟩ := h.obj l _ hS
  rcases hrow with hrow | ⟨hown, hsz0, hnc, hG, cur', fr', hb', hfr', hcs'⟩
  · exact absurd hrow hcap0
  rw [hb] at hb'
  cases hb'
  have hfes := flat_length (es := es) (sz := sz) (fun x hx => hsz x (by simp [hx]))
  have hfys := flat_length (es := ys) (sz := sz) (fun x hx => hsz x (by simp [hx]))
  have hul : us.length = n * sz := by have := hus.1; simp at this; rw [this, hfes, hn]
  have hvl : vs.length = ys.length * sz := by have := hvs.1; simp at this; rw [this, hfys]
  have hrl : (n + ys.length) * sz ≤ g.cap l * sz := Nat.mul_le_mul_right _ hroom
  have hmul : (n + ys.length) * sz = n * sz + ys.length * sz := Nat.add_mul _ _ _
  let g' : Gh := { g with G := fun x => if x = g.pl l then (n + ys.length) * sz else g.G x, wm := fun k => if k = l then n + ys.length else g.wm k }
  have hnew : w'.heap[g.pl l]? = some (.cells (cur.toList.take (n * sz) ++ vs ++ cur.toList.drop (n * sz + vs.length)).toArray e fr) := setRow_heap w (g.pl l) cur _ e fr hb
  have hcl : cur.toList.length = g.cap l * sz := by simpa using hcs'
  have hcell : ∀ j u, (us ++ vs)[j]? = some u → w'.cell? ⟨g.pl l, j, none⟩ = some u := by
    intro j u hu
    rw [cell_of_row w' _ j _ e fr hnew]
    rw [htake]
    simp only [List.getElem?_toArray]
    rw [List.getElem?_append_left (List.getElem?_eq_some_iff.1 hu).1]
    exact hu
  have hold : ∀ b o v, o < g.G b → w.cell? ⟨b, o, none⟩ = some v → w'.cell? ⟨b, o, none⟩ = some v := by
    intro b o v hbo hv
    by_cases hbl : b = g.pl l
    · subst hbl
      refine hcell o v ?_
      have ho : o < n * sz := by omega
      rw [cell_of_row w _ o cur e fr hb] at hv
      rw [List.getElem?_append_left (by omega), ← htake, List.getElem?_take_of_lt ho]
      simpa using hv
    · rw [World.cell?_of_block (w := w) (w' := w') (setRow_other w _ b _ hbl)]; exact hv
  have hle : Le w g w' g' := by
    refine ⟨hold, fun b o v hbo _ => ?_, Nat.le_refl _, fun k hk => ⟨rfl, ?_⟩⟩
    · show o < (if b = g.pl l then _ else g.G b)
      split
      · rename_i e; subst e; omega
      · exact hbo
    · by_cases hkl : k = l
      · subst hkl
        refine .inr ⟨hbuf, ?_⟩
        show g.wm k < (if k = k then _ else _)
        rw [if_pos rfl, hwm]; omega
      · exact .inl ⟨rfl, if_neg hkl, rfl⟩
  refine ⟨g', h.touch hlS hle rfl (fun k hk _ => ⟨rfl, rfl, if_neg hk, rfl, rfl⟩) (fun b hb => .inl hb) (by simp [w']) (fun b _ hno => if_neg (fun e => hno (by rw [e]; exact hown))) (fun b _ hno => setRow_other w _ b _ (fun e => hno (by rw [e]; exact hown))) ?_,
    ⟨hle, rfl, rfl, rfl, by simp [w'], fun b _ hno => setRow_other w _ b _ (fun e => hno l (by omega) (by rw [e]; exact hown)), fun _ _ hk hb _ => ⟨hk, hb⟩, fun b _ hno => if_neg (fun e => hno l (by omega) (by rw [e]; exact hown))⟩, ?_⟩
  · refine ⟨hbuf, by simp [g'], .inr ⟨hown, hsz0, hroom, by simp [g'], _, fr, hnew, ?_, ?_⟩⟩
    · rcases hfr' with hf | hf
      · exact .inl hf
      · refine .inr ?_
        simp only [List.size_toArray, List.length_append, List.length_take, List.length_drop]
        omega
    · show _ = g.cap l * sz
      simp only [List.size_toArray, List.length_append, List.length_take, List.length_drop]
      omega
  · have := own_rel (w := w') (g := g') (l := l) (b := g.pl l) (cap := g.cap l) (sz := sz) (es := es ++ ys) (us := us ++ vs) (by show l < g.nid; omega) hbuf rfl (by simp [g', hn]) rfl (by simp [g', hn]) hsz (by simp; omega) hm (by
      rw [flat_append]
      have h1 := hus.le hle.noid
      have h2 := hvs.le hle.noid
      refine ⟨?_, fun v hv => ?_, fun j u v hu hv => ?_⟩
      · have := h1.1; have := h2.1; simp at *; omega
      · simp only [List.mem_append] at hv
        rcases hv with hv | hv
        · exact h1.2.1 v hv
        · exact h2.2.1 v hv
      · have hl1 : (flat es).length = us.length := by have := h1.1; simpa using this.symm
        simp only [List.getElem?_toArray] at hv
        rw [List.getElem?_append] at hu hv
        rw [hl1] at hu
        split at hu
        · rename_i hc; rw [if_pos hc] at hv; exact h1.2.2 j u v hu (by simpa using hv)
        · rename_i hc; rw [if_neg hc] at hv; exact h2.2.2 _ u v hu (by simpa using hv)) hcell
    rw [List.length_append, hn] at this
    exact this
/-- a number kept for a row that does not lie anywhere yet -/
theorem WF.reserve (h : WF w g S) (n : Nat) (e : TypeId) (sz : Nat) : ∃ g', WF w g' (S ++ [.buf n e sz]) ∧ Evo w g w g' ∧ g'.nid = g.nid + 1 ∧ g'.buf g.nid = true ∧ g'.wm g.nid = n := by
  let g' : Gh := { g with pl := fun k => if k = g.nid then 0 else g.pl k, own := fun k x => if k = g.nid then False else g.own k x, nid := g.nid + 1, buf := fun k => if k = g.nid then true else g.buf k, wm := fun k => if k = g.nid then n else g.wm k, cap := fun k => if k = g.nid then 0 else g.cap k }
  have hn := h.nid
  have hle : Le w g w g' := ⟨fun _ _ _ _ h => h, fun _ _ _ h _ => h, by simp [g'], fun k hk => by
    have hne : k ≠ g.nid := Nat.ne_of_lt hk
    exact ⟨if_neg hne, .inl ⟨if_neg hne, if_neg hne, if_neg hne⟩⟩⟩
  have hown : ∀ k b, k < g'.nid → g'.own k b → k < g.nid ∧ g.own k b := fun k b hk hb => by
    have hb' : if k = g.nid then False else g.own k b := hb
    split at hb'
    · exact hb'.elim
    · have hk' : k < g.nid + 1 := hk
      exact ⟨by omega, hb'⟩
  refine ⟨g', ⟨by simp [g', hn], fun k o hk => ?_, fun k k' b hk hk' hb hb' => ?_, fun k b hk hb => ?_, h.tab.le hle⟩, ⟨hle, rfl, rfl, rfl, Nat.le_refl _, fun _ _ _ => rfl, fun k b hk hb _ => hown k b hk hb, fun _ _ _ => rfl⟩, rfl, by simp [g'], by simp [g']⟩
  · by_cases hkl : k < S.length
    · rw [List.getElem?_append_left hkl] at hk
      have hne : k ≠ g.nid := by omega
      exact (h.obj k o hk).keep hle (if_neg hne) (if_neg hne) (if_neg hne) (if_neg hne) (by funext x; exact if_neg hne) (fun _ _ => rfl) (fun _ _ => rfl)
    · rw [List.getElem?_append_right (by omega)] at hk
      have hk0 : k - S.length = 0 := by
        have := (List.getElem?_eq_some_iff.1 hk).1
        simp at this; omega
      rw [hk0] at hk
      cases hk
      have : k = g.nid := by omega
      subst this
      exact ⟨by simp [g'], by simp [g'], .inl (by simp [g'])⟩
  · have h1 := hown k b hk hb
    have h2 := hown k' b hk' hb'
    exact h.disj k k' b h1.1 h2.1 h1.2 h2.2
  · have h1 := hown k b hk hb
    exact h.lt k b h1.1 h1.2
end
end Go.Proofs.Ytknbnhmenohacaa.Pe
