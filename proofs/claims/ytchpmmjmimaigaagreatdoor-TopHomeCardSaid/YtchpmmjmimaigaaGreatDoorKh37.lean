import Derived.Test.YtchpmmjmimaigaaGreatDoorKh35
import Derived.Test.YtchpmmjmimaigaaGreatDoorKh36
import Derived.SizedLaws
import Derived.Carry
set_option linter.unusedSectionVars false
set_option linter.unusedVariables false
set_option linter.unusedSimpArgs false
namespace Go.Proofs.YtchpmmjmimaigaaGreatDoor
section
namespace topHome
open _root_.Go.Proofs.Tryz
open Go Go.RowKit Go.ChangeShapes Go.WideShapes Go.ChangeAt
open Go.ChangeMaps (setBlock shut_map_nil open_string shut_string keptBut_setBlock frozen?_setBlock heap_setBlock_same)
set_option maxRecDepth 100000
set_option maxHeartbeats 4000000
theorem plain(f:FuncId)(fn:Func)(hf:Tryz.pinned.checked.prog.funcNamed "agora/agoratop.TopHome" = some f)(hfn:Tryz.pinned.checked.prog.funcs[f]? = some fn):
  false=Tryz.pinned.checked.prog.looks [] ∧ ∀(j:Nat) t,fn.params[j]? = some t→Tryz.pinned.checked.prog.wantsStandIn t=false:=by
 obtain rfl:f=3:=Option.some.inj ((show prog.funcNamed "agora/agoratop.TopHome" = some 3 by kernel_rfl).symm.trans hf) |>.symm
 obtain rfl:fn=f3:=(Option.some.inj (func3.symm.trans hfn)).symm;refine⟨by kernel_rfl,fun j t ht=>?_⟩
 rw[Tryz.params3]at ht;have hm:t∈[3,22,23]:=by simpa using Array.mem_of_getElem? ht
 rcases List.mem_cons.1 hm with rfl|hm
 ·exact(show prog.wantsStandIn 3=false by kernel_rfl)
 rcases List.mem_cons.1 hm with rfl|hm
 ·exact(show prog.wantsStandIn 22=false by kernel_rfl)
 rcases List.mem_cons.1 hm with rfl|hm
 ·exact(show prog.wantsStandIn 23=false by kernel_rfl)
 cases hm
theorem card:Rows.TopHomeCardSaid:=
 Claim7.holds_tied_plain_at .later [] _ _ _ _ said (fun _ h=>by cases h) (by kernel_rfl) (fun _ h=>by cases h) topHome_row_tie rfl ⟨rfl,rfl⟩ (by kernel_rfl) rfl plain Zjt
end topHome
end
end Go.Proofs.YtchpmmjmimaigaaGreatDoor
