/- The arguments of chapter 10's laws as plain values: lists of strings. -/
import Derived.Test.YtjicccjpooahoaaPeR
import Derived.Test.YtjicccjpooahoaaPeW5
set_option linter.unusedSectionVars false
set_option linter.unusedVariables false
set_option linter.unusedSimpArgs false
namespace Go.Proofs.Ytjicccjpooahoaa.Pe
open Go
set_option maxRecDepth 100000
theorem shp_strs {n us} (h : shp Try.prog 140737488351232 (n + 2) 22 us) : ∃ l : List (List UInt8), us = [.sl .ro (l.map .st)] ∧ l.length ≤ 140737488355328 ∧ ∀ s ∈ l, s.length ≤ 140737488355328 := by
 obtain ⟨l, h1, h2, h3⟩ := shp_slice AV.st (fun s : List UInt8 => s.length ≤ 140737488355328) Try.underlying22 h (fun x hx => by
  obtain ⟨s, rfl, hs⟩ := shp_str Try.underlying9 hx
  exact ⟨s, by rw [show aggT Try.prog 9 = false from by kernel_rfl]; rfl, by omega⟩)
 exact ⟨l, h1, by omega, h3⟩
end Go.Proofs.Ytjicccjpooahoaa.Pe
