/- The walks of sum.Crc and of the two helpers of Unhex. -/
import Derived.Test.YthnolonphjfoeaaDoorChecked
import Derived.Test.YthnolonphjfoeaaDoorSumM
import Derived.WalkKit
import Derived.ProofKit
import Derived.WalkSpells
import Derived.Lib.Hide
import Derived.WalkLawsBesides
namespace Go.Proofs.YthnolonphjfoeaaDoor
set_option linter.unusedSectionVars false
set_option linter.unusedVariables false
set_option linter.unusedSimpArgs false
open Go.RowKit Sm
theorem ret_int {k : IntKind} {a b : Int} (h : a = b) : Ending.returned (.int k a) = .returned (.int k b) := by rw [h]
theorem val_int {k : IntKind} {a b : Int} (h : a = b) : Value.int k a = .int k b := by rw [h]
theorem val32 {a b : BitVec 32} (h : a = b) : w32 a = w32 b := by rw [h]
theorem ret32 {a b : BitVec 32} (h : a = b) : Ending.returned (w32 a) = .returned (w32 b) := by rw [h]
end Go.Proofs.YthnolonphjfoeaaDoor
