/- What the rows' list of package-level tables gives: the known cells of plain values. -/
import Derived.Test.YthbpbkbjdfcnjaaGreatDoorSumLd
import Derived.Test.YthbpbkbjdfcnjaaGreatDoorShaC
import Derived.Test.YthbpbkbjdfcnjaaGreatDoorPeW5
namespace Go.Proofs.YthbpbkbjdfcnjaaGreatDoor
set_option linter.unusedSectionVars false
set_option linter.unusedVariables false
set_option linter.unusedSimpArgs false
open Go Go.RowKit Sm
theorem tab_of {W : World} (h : Tabs W) : ∀ b i v, (Pe.tabs).T b i = some v → W.cell? ⟨b, i, none⟩ = some v := by
  intro b i v hv
  have hv' : (if b = 1 ∧ i < 64 then some (w32 (tabK.getD i 0)) else if b = 0 ∧ i < 8 then some (w32 (init8.list.getD i 0)) else none) = some v := hv
  split at hv'
  · rename_i hc
    obtain ⟨rfl, hi⟩ := hc
    rw [h.1 i hi]; exact hv'
  · split at hv'
    · rename_i hc
      obtain ⟨rfl, hi⟩ := hc
      rw [h.2 i hi]; exact hv'
    · cases hv'
theorem laidOut : laidOutB Tryz.prog = true := by kernel_rfl
end Go.Proofs.YthbpbkbjdfcnjaaGreatDoor
