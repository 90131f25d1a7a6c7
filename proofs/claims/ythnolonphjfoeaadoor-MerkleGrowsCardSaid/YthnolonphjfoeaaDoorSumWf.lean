/- The walks of sum.digit, Hex, Unhex, Num. -/
import Derived.Test.YthnolonphjfoeaaDoorSumWe
namespace Go.Proofs.YthnolonphjfoeaaDoor
set_option linter.unusedSectionVars false
set_option linter.unusedVariables false
set_option linter.unusedSimpArgs false
open Go.RowKit Sm
theorem hexd_at (b : UInt8) (h : b.toNat < (⟨#[48, 49, 50, 51, 52, 53, 54, 55, 56, 57, 97, 98, 99, 100, 101, 102]⟩ : ByteArray).size) : (⟨#[48, 49, 50, 51, 52, 53, 54, 55, 56, 57, 97, 98, 99, 100, 101, 102]⟩ : ByteArray)[b.toNat] = hexd b := by
  unfold hexd digs
  rw [List.getD_eq_getElem?_getD, List.getElem?_eq_getElem (by exact h)]
  rfl
end Go.Proofs.YthnolonphjfoeaaDoor
