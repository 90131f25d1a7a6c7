import Derived.Test.YtipfggegddlgdaaGreatDoorCards
import Derived.KernelRfl
import Derived.SizedLaws
set_option linter.unusedSectionVars false
set_option linter.unusedVariables false
set_option linter.unusedSimpArgs false
namespace Go.Proofs.YtipfggegddlgdaaGreatDoor
section
namespace topPrivacy
open Go
set_option maxRecDepth 100000
theorem Zhv:false=Rows.topPrivacyRow.goesBy Tryz.pinned.checked.prog:=by kernel_rfl
end topPrivacy
end
end Go.Proofs.YtipfggegddlgdaaGreatDoor
