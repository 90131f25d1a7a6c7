/- Contracts proved by the walk, as contracts on plain values. Nothing of the program. -/
import Derived.Test.YtknbnhmenohacaaPeQ
namespace Go.Proofs.Ytknbnhmenohacaa.Pe
set_option linter.unusedSectionVars false
set_option linter.unusedVariables false
set_option linter.unusedSimpArgs false
open Go Go.RowKit
variable [Tab]
theorem Le.below {w w' : World} (g : Gh) (h : Below w.heap.size w w') : Le w g w' g :=
  ⟨fun b o v _ hv => by rw [World.cell?_of_block (w := w) (w' := w') (h.block b (World.block_lt_of_cell? w _ hv))]; exact hv, fun _ _ _ h _ => h, Nat.le_refl _, fun _ _ => ⟨rfl, .inl ⟨rfl, rfl, rfl⟩⟩⟩
theorem WF.below {w w' : World} {g : Gh} {S : Store} (hw : WF w g S) (h : Below w.heap.size w w') : WF w' g S := by
  refine ⟨hw.nid, fun l o hl => ?_, hw.disj, fun l b hl hb => ?_, hw.tab.le (Le.below g h)⟩
  · have hlt : l < g.nid := by rw [hw.nid]; exact (List.getElem?_eq_some_iff.1 hl).1
    exact (hw.obj l o hl).keep (Le.below g h) rfl rfl rfl rfl rfl (fun _ _ => rfl) (fun b hb => h.block b (hw.lt l b hlt hb))
  · have := hw.lt l b hl hb
    have := h.size
    omega
theorem Evo.below {w w' : World} (g : Gh) (h : Below w.heap.size w w') : Evo w g w' g :=
  ⟨Le.below g h, h.os, h.tape, h.output, h.size, fun b hb _ => h.block b hb, fun _ _ hl hb _ => ⟨hl, hb⟩, fun _ _ _ => rfl⟩
/-- a contract of the walk, whose result is plain -/
theorem AC.ofBelow {P : Program} {f : FuncId} {args : List AV} {v : AV} (hcan : callable P f = true)
    (h : ∀ (w : World) (g : Gh) (cargs : Array Value), TabOk w g → LRel w g args cargs → Calls P f cargs w fun r w' => ∃ cv, r = .returned cv ∧ (∀ g', Rel w' g' v cv) ∧ Below w.heap.size w w') : AC P f args [] v [] := by
  refine ⟨hcan, fun w g cargs hw hargs => ?_⟩
  refine (h w g cargs hw.tab hargs).mono ?_
  rintro r w' ⟨cv, rfl, h1, h2⟩
  exact ⟨cv, g, rfl, hw.below h2, h1 g, Evo.below g h2⟩
theorem lrel_one {w : World} {g : Gh} {v : AV} {cargs : Array Value} (h : LRel w g [v] cargs) : ∃ cv, cargs = #[cv] ∧ Rel w g v cv := by
  obtain ⟨h1, h2⟩ := h
  have h0 : 0 < cargs.size := by rw [h1]; simp
  refine ⟨cargs[0], ?_, h2 0 v _ rfl (Array.getElem?_eq_getElem h0)⟩
  apply Array.ext
  · simpa using h1
  · intro i hi hi'
    have : i = 0 := by simp at h1; omega
    subst this
    rfl
theorem lrel_st {w : World} {g : Gh} {l : List UInt8} {cargs : Array Value} (h : LRel w g [.st l] cargs) : cargs = #[.string ⟨l.toArray⟩] := by
  obtain ⟨cv, rfl, hr⟩ := lrel_one h
  cases hr
  rfl
end Go.Proofs.Ytknbnhmenohacaa.Pe
