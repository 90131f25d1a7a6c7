/- Regions without places that must stay: what is asked of an operation there. Nothing of the program. -/
import Derived.Test.YthbpbkbjdfcnjaaGreatDoorPeUW
set_option linter.unusedSectionVars false
set_option linter.unusedVariables false
set_option linter.unusedSimpArgs false
namespace Go.Proofs.YthbpbkbjdfcnjaaGreatDoor.Pe
open Go Go.RowKit
variable [Tab]
section
variable {P : Program} {pf rf : List FuncId} {e e' : Env} {S S' : Store} {K : Env → Store → Prop} {lp wp : List Nat} {rest : List AO}
theorem keeps0 (S S' : Store) : keeps [] S S' := fun k hk => by cases hk
theorem z4 (h : ARg4 P pf rf [] lp wp rest e' S' K) : sideK P pf rf K [] lp wp rest S e' S' := ⟨keeps0 S S', h⟩
theorem zp4 {d : Option Nat} {op : Op} {v : AV} {z : SObj} (h : AppF P op e S = some (v, z)) (h' : ARg4 P pf rf [] lp wp rest (put e d v) (S ++ [z]) K) (hk : kdA lp wp d op = .ap := by rfl) : ARg4 P pf rf [] lp wp (⟨d, op, none⟩ :: rest) e S K := p4 h h' hk (keeps0 _ _)
end
end Go.Proofs.YthbpbkbjdfcnjaaGreatDoor.Pe
