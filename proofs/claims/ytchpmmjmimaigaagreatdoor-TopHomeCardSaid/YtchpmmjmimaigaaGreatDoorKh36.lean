import Derived.Test.YtchpmmjmimaigaaGreatDoorCards
import Derived.KernelRfl
import Derived.SizedLaws
set_option linter.unusedSectionVars false
set_option linter.unusedVariables false
set_option linter.unusedSimpArgs false
namespace Go.Proofs.YtchpmmjmimaigaaGreatDoor
section
namespace topHome
open Go
set_option maxRecDepth 100000
theorem Zjt:false=Rows.topHomeRow.goesBy Tryz.pinned.checked.prog:=by kernel_rfl
end topHome
end
end Go.Proofs.YtchpmmjmimaigaaGreatDoor
