/- Memory: what a load yields; what a store, a new place, a literal, an append leave. Nothing of the program. -/
import Derived.Test.YtknbnhmenohacaaPeE
namespace Go.Proofs.Ytknbnhmenohacaa.Pe
set_option linter.unusedSectionVars false
set_option linter.unusedVariables false
set_option linter.unusedSimpArgs false
open Go Go.RowKit
variable [Tab]
section
variable {w w' : World} {g g' : Gh} {S : Store} {l : Nat} {o : SObj}
theorem ObjOk.keep (h : ObjOk w g l o) (hl : Le w g w' g') (hpl : g'.pl l = g.pl l) (hbuf : g'.buf l = g.buf l) (hwm : g'.wm l = g.wm l) (hcap : g'.cap l = g.cap l) (hown : g'.own l = g.own l)
    (hG : ∀ b, g.own l b → g'.G b = g.G b) (hheap : ∀ b, g.own l b → w'.heap[b]? = w.heap[b]?) : ObjOk w' g' l o := by
  cases o with
  | cells cs =>
    obtain ⟨h1, h2, h3, arr, T, fr, h4, h5, h6, h7, h8⟩ := h
    refine ⟨by rw [hbuf]; exact h1, by rw [hown, hpl]; exact h2, by rw [hpl, hG _ h2]; exact h3, arr, T, fr, by rw [hpl, hheap _ h2]; exact h4, h5, h6, h7, fun j u v hu hv => (h8 j u v hu hv).le hl⟩
  | buf n e sz =>
    obtain ⟨h1, h2, h3⟩ := h
    refine ⟨by rw [hbuf]; exact h1, by rw [hwm]; exact h2, ?_⟩
    rcases h3 with h3 | ⟨h3, h4, h5, h6, cur, fr, h7, h8, h9⟩
    · exact .inl (by rw [hcap]; exact h3)
    · exact .inr ⟨by rw [hown, hpl]; exact h3, h4, by rw [hcap]; exact h5, by rw [hpl, hG _ h3]; exact h6, cur, fr, by rw [hpl, hheap _ h3]; exact h7, h8, by rw [hcap]; exact h9⟩
  | ext X =>
    obtain ⟨h1, h2, h3, h4⟩ := h
    refine ⟨by rw [hbuf]; exact h1, by rw [hown, hpl]; exact h2, fun b hb => ?_, fun w'' hw => ?_⟩
    · rw [hown] at hb; rw [hG b hb]; exact h3 b hb
    · rw [hown, hpl]
      exact h4 w'' fun b hb => by rw [hw b (by rw [hown]; exact hb), hheap b hb]
  | map es =>
    obtain ⟨h1, h2, h3, me, clock, h4, h5, h6, h7, h8⟩ := h
    exact ⟨by rw [hbuf]; exact h1, by rw [hown, hpl]; exact h2, by rw [hpl, hG _ h2]; exact h3, me, clock, by rw [hpl, hheap _ h2]; exact h4, h5, h6, h7, fun j u x hu hx => ⟨(h8 j u x hu hx).1.le hl, (h8 j u x hu hx).2.le hl⟩⟩
  | siter s pos =>
    obtain ⟨h1, h2, h3, h4⟩ := h
    exact ⟨by rw [hbuf]; exact h1, by rw [hown, hpl]; exact h2, by rw [hpl, hG _ h2]; exact h3, by rw [hpl, hheap _ h2]; exact h4⟩
  | dead => trivial
/-- one place written anew, the others as they were -/
theorem WF.touch (h : WF w g S) (hl : l < S.length) (hle : Le w g w' g') (hnid : g'.nid = g.nid)
    (hsame : ∀ k, k ≠ l → k < g.nid → g'.pl k = g.pl k ∧ g'.buf k = g.buf k ∧ g'.wm k = g.wm k ∧ g'.cap k = g.cap k ∧ g'.own k = g.own k)
    (hownl : ∀ b, g'.own l b → g.own l b ∨ (w.heap.size ≤ b ∧ b < w'.heap.size)) (hsize : w.heap.size ≤ w'.heap.size)
    (hG : ∀ b, b < w.heap.size → ¬ g.own l b → g'.G b = g.G b) (hheap : ∀ b, b < w.heap.size → ¬ g.own l b → w'.heap[b]? = w.heap[b]?)
    (hobj : ObjOk w' g' l o) : WF w' g' (S.set l o) := by
  have hn : g.nid = S.length := h.nid
  refine ⟨by rw [hnid, hn, List.length_set], fun k o' hk => ?_, fun k k' b hk hk' hb hb' => ?_, fun k b hk hb => ?_, h.tab.le hle⟩
  · by_cases hkl : k = l
    · subst hkl
      rw [List.getElem?_set_self hl] at hk
      cases hk
      exact hobj
    · rw [List.getElem?_set_ne (fun e => hkl e.symm)] at hk
      have hkn : k < g.nid := by rw [hn]; exact (List.getElem?_eq_some_iff.1 hk).1
      obtain ⟨e1, e2, e3, e4, e5⟩ := hsame k hkl hkn
      have hno : ∀ b, g.own k b → ¬ g.own l b := fun b hb hb' => hkl (h.disj k l b hkn (by omega) hb hb')
      exact (h.obj k o' hk).keep hle e1 e2 e3 e4 e5 (fun b hb => hG b (h.lt k b hkn hb) (hno b hb)) (fun b hb => hheap b (h.lt k b hkn hb) (hno b hb))
  · rw [hnid] at hk hk'
    have key : ∀ k, k < g.nid → k ≠ l → g'.own k b → g.own l b ∨ (w.heap.size ≤ b ∧ b < w'.heap.size) → False := by
      intro k hk hkl hb hb'
      rw [(hsame k hkl hk).2.2.2.2] at hb
      rcases hb' with hb' | hb'
      · exact hkl (h.disj k l b hk (by omega) hb hb')
      · have := h.lt k b hk hb; omega
    by_cases h1 : k = l <;> by_cases h2 : k' = l
    · rw [h1, h2]
    · subst h1; exact (key k' hk' h2 hb' (hownl b hb)).elim
    · subst h2; exact (key k hk h1 hb (hownl b hb')).elim
    · rw [(hsame k h1 hk).2.2.2.2] at hb
      rw [(hsame k' h2 hk').2.2.2.2] at hb'
      exact h.disj k k' b hk hk' hb hb'
  · rw [hnid] at hk
    by_cases h1 : k = l
    · subst h1
      rcases hownl b hb with hb | hb
      · have := h.lt k b hk hb; omega
      · exact hb.2
    · rw [(hsame k h1 hk).2.2.2.2] at hb
      have := h.lt k b hk hb; omega
/-- the cells that never change, the others free -/
def Gh.stab (g : Gh) (b n : Nat) : Gh := { g with G := fun x => if x = b then n else g.G x }
theorem Le.stab_new (w : World) (g : Gh) (o : Obj) (n : Nat) : Le w g (w.alloc o) (g.stab w.heap.size n) := by
  refine ⟨fun b o' v _ hv => ?_, fun b o' v hb hv => ?_, Nat.le_refl _, fun _ _ => ⟨rfl, .inl ⟨rfl, rfl, rfl⟩⟩⟩
  · have hlt := World.block_lt_of_cell? w _ hv
    rw [World.cell?_alloc_lt w o _ hlt]
    exact hv
  · have hlt := World.block_lt_of_cell? w _ hv
    simp only [Gh.stab]
    rw [if_neg (show b ≠ w.heap.size from Nat.ne_of_lt hlt)]
    exact hb
theorem WF.alloc_stab (h : WF w g S) (o : Obj) (n : Nat) : WF (w.alloc o) (g.stab w.heap.size n) S ∧ Evo w g (w.alloc o) (g.stab w.heap.size n) := by
  have hle := Le.stab_new w g o n
  refine ⟨⟨h.nid, fun l o' hl => ?_, h.disj, fun l b hl hb => ?_, h.tab.le hle⟩, ⟨hle, rfl, rfl, rfl, by simp, fun b hb _ => heap_alloc_old w o hb, fun l b hl hb _ => ⟨hl, hb⟩, fun b hb _ => if_neg (Nat.ne_of_lt hb)⟩⟩
  · have hlt : l < g.nid := by rw [h.nid]; exact (List.getElem?_eq_some_iff.1 hl).1
    refine (h.obj l o' hl).keep hle rfl rfl rfl rfl rfl (fun b hb => ?_) (fun b hb => heap_alloc_old w o (h.lt l b hlt hb))
    simp only [Gh.stab]
    rw [if_neg (Nat.ne_of_lt (h.lt l b hlt hb))]
  · have := h.lt l b hl hb
    show b < (w.heap.push o).size
    simp; omega
/-- a new number, at block b -/
def Gh.push (g : Gh) (b : Nat) (isBuf : Bool) (wm cap n : Nat) : Gh :=
  { G := fun x => if x = b then n else g.G x, pl := fun k => if k = g.nid then b else g.pl k, own := fun k x => if k = g.nid then x = b else g.own k x, nid := g.nid + 1,
    buf := fun k => if k = g.nid then isBuf else g.buf k, wm := fun k => if k = g.nid then wm else g.wm k, cap := fun k => if k = g.nid then cap else g.cap k }
theorem Le.push_new (w : World) (g : Gh) (o : Obj) (isBuf : Bool) (wm cap n : Nat) : Le w g (w.alloc o) (g.push w.heap.size isBuf wm cap n) := by
  refine ⟨fun b o' v _ hv => ?_, fun b o' v hb hv => ?_, by simp [Gh.push], fun k hk => ?_⟩
  · have hlt := World.block_lt_of_cell? w _ hv
    rw [World.cell?_alloc_lt w o _ hlt]
    exact hv
  · have hlt := World.block_lt_of_cell? w _ hv
    simp only [Gh.push]
    rw [if_neg (show b ≠ w.heap.size from Nat.ne_of_lt hlt)]
    exact hb
  · have : k ≠ g.nid := Nat.ne_of_lt hk
    simp [Gh.push, this]
theorem WF.alloc_push (h : WF w g S) (ob : Obj) (isBuf : Bool) (wm cap n : Nat) (hobj : ObjOk (w.alloc ob) (g.push w.heap.size isBuf wm cap n) g.nid o) :
    WF (w.alloc ob) (g.push w.heap.size isBuf wm cap n) (S ++ [o]) ∧ Evo w g (w.alloc ob) (g.push w.heap.size isBuf wm cap n) := by
  have hle := Le.push_new w g ob isBuf wm cap n
  have hn := h.nid
  have hown : ∀ k, k < g.nid → (g.push w.heap.size isBuf wm cap n).own k = g.own k := fun k hk => by
    funext x; simp [Gh.push, Nat.ne_of_lt hk]
  have hownn : ∀ b, (g.push w.heap.size isBuf wm cap n).own g.nid b ↔ b = w.heap.size := fun b => by simp [Gh.push]
  have hlast : ∀ k, k < (g.push w.heap.size isBuf wm cap n).nid → k < g.nid ∨ k = g.nid := fun k hk => by simp only [Gh.push] at hk; omega
  refine ⟨⟨by simp [Gh.push, hn], fun k o' hk => ?_, fun k k' b hk hk' hb hb' => ?_, fun k b hk hb => ?_, h.tab.le hle⟩, ⟨hle, rfl, rfl, rfl, by simp, fun b hb _ => heap_alloc_old w ob hb, fun k b hk hb hlt => ?_, fun b hb _ => if_neg (Nat.ne_of_lt hb)⟩⟩
  · by_cases hkl : k < S.length
    · rw [List.getElem?_append_left hkl] at hk
      have hkn : k < g.nid := by omega
      have hne : k ≠ g.nid := by omega
      refine (h.obj k o' hk).keep hle (by simp [Gh.push, hne]) (by simp [Gh.push, hne]) (by simp [Gh.push, hne]) (by simp [Gh.push, hne]) (hown k hkn) (fun b hb => ?_) (fun b hb => heap_alloc_old w ob (h.lt k b hkn hb))
      simp only [Gh.push]
      rw [if_neg (Nat.ne_of_lt (h.lt k b hkn hb))]
    · rw [List.getElem?_append_right (by omega)] at hk
      have hk0 : k - S.length = 0 := by
        have := (List.getElem?_eq_some_iff.1 hk).1
        simp at this; omega
      rw [hk0] at hk
      cases hk
      have : k = g.nid := by omega
      subst this
      exact hobj
  · rcases hlast k hk with h1 | h1 <;> rcases hlast k' hk' with h2 | h2
    · rw [hown k h1] at hb; rw [hown k' h2] at hb'
      exact h.disj k k' b h1 h2 hb hb'
    · subst h2
      rw [hown k h1] at hb; rw [hownn] at hb'
      have := h.lt k b h1 hb; omega
    · subst h1
      rw [hown k' h2] at hb'; rw [hownn] at hb
      have := h.lt k' b h2 hb'; omega
    · omega
  · show b < (w.heap.push ob).size
    rw [Array.size_push]
    rcases hlast k hk with h1 | h1
    · rw [hown k h1] at hb
      have := h.lt k b h1 hb; omega
    · subst h1
      rw [hownn] at hb; omega
  · rcases hlast k hk with h1 | h1
    · rw [hown k h1] at hb
      exact ⟨h1, hb⟩
    · subst h1
      rw [hownn] at hb; omega
/-- a new place that holds cells -/
theorem WF.new_cells (h : WF w g S) {cs : List AV} {arr : Array Value} (hc : CellsRel w g cs arr) (T : TypeId) :
    ∃ g', WF (w.alloc (.cells arr T)) g' (S ++ [.cells cs]) ∧ Evo w g (w.alloc (.cells arr T)) g' ∧ Rel (w.alloc (.cells arr T)) g' (.ptr S.length 0) (.pointer (some ⟨w.heap.size, 0, none⟩)) := by
  have hle := Le.push_new w g (.cells arr T) false 0 0 0
  have hr := hc.le hle
  obtain ⟨h1, h2⟩ := h.alloc_push (.cells arr T) false 0 0 0 (o := .cells cs) (by
    refine ⟨by simp [Gh.push], by simp [Gh.push], by simp [Gh.push], arr, T, (0, 0), ?_, Nat.le_refl _, hr.1, hr.2.1, hr.2.2⟩
    simp only [Gh.push, if_true]
    exact heap_alloc_new w _)
  refine ⟨_, h1, h2, ?_⟩
  have := Rel.ptr (w := w.alloc (.cells arr T)) (g.push w.heap.size false 0 0 0) g.nid 0 (by simp [Gh.push]) (by simp [Gh.push])
  have hp : (g.push w.heap.size false 0 0 0).pl g.nid = w.heap.size := by simp [Gh.push]
  rw [hp] at this
  have hn := h.nid
  rw [hn] at this
  exact this
end
end Go.Proofs.Ytknbnhmenohacaa.Pe
