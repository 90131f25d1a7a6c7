/- The arguments of DiskDown and DiskLasts as plain values. -/
import Derived.Test.YtknbnhmenohacaaDiskLs
import Derived.Test.YtknbnhmenohacaaPeT
namespace Go.Proofs.Ytknbnhmenohacaa.Pe
set_option linter.unusedSectionVars false
set_option linter.unusedVariables false
set_option linter.unusedSimpArgs false
open Go Dm
set_option maxRecDepth 100000
theorem shp_ints {n us} (h : shp Try.prog 140737488351232 (n + 2) 22 us) : ∃ l : List Int, us = [ints .ro l] ∧ l.length ≤ 140737488351232 := by
  obtain ⟨l, h1, h2, _⟩ := shp_slice (AV.it .i64) (fun _ => True) Try.underlying22 h (fun x hx => by
    obtain ⟨i, rfl, _⟩ := shp_i64 Try.underlying3 hx
    exact ⟨i, by rw [show aggT Try.prog 3 = false from by kernel_rfl]; rfl, trivial⟩)
  exact ⟨l, h1, h2⟩
theorem shp_act {n us} (h : shp Try.prog 140737488351232 (n + 3) 39 us) : ∃ a : Dm.Act, us = (aV a).cells ∧ Ain a := by
  have h := shp_struct Try.underlying39 h
  obtain ⟨a0, b0, rfl, h0, h⟩ := h
  obtain ⟨a1, b1, rfl, h1, h⟩ := h
  obtain ⟨a2, b2, rfl, h2, h⟩ := h
  obtain ⟨a3, b3, rfl, h3, h⟩ := h
  obtain ⟨a4, b4, rfl, h4, h⟩ := h
  obtain ⟨a5, b5, rfl, h5, rfl⟩ := h
  obtain ⟨i0, rfl, w0⟩ := shp_i64 Try.underlying3 h0
  obtain ⟨i1, rfl, w1⟩ := shp_i64 Try.underlying3 h1
  obtain ⟨i2, rfl, w2⟩ := shp_i64 Try.underlying3 h2
  obtain ⟨i3, rfl, w3⟩ := shp_i64 Try.underlying3 h3
  obtain ⟨s4, rfl, w4⟩ := shp_str Try.underlying9 h4
  obtain ⟨l5, rfl, w5⟩ := shp_ints h5
  exact ⟨⟨i0, i1, i2, i3, s4, l5⟩, rfl, w0, w1, w3, w4, w5⟩
theorem shp_acts {n us} (h : shp Try.prog 140737488351232 (n + 4) 35 us) : ∃ l : List Dm.Act, us = [.sl .ro (l.map aV)] ∧ l.length ≤ 140737488351232 ∧ ∀ a ∈ l, Ain a :=
  shp_slice aV Ain Try.underlying35 h fun x hx => by
    obtain ⟨a, rfl, ha⟩ := shp_act hx
    exact ⟨a, by rw [show aggT Try.prog 39 = true from by kernel_rfl]; rfl, ha⟩
end Go.Proofs.Ytknbnhmenohacaa.Pe
