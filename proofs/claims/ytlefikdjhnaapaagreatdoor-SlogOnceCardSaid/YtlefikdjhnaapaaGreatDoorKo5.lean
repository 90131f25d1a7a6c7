/- Several texts in one, without what this claim does not use (tools/shake.py). -/
import Derived.Test.YtlefikdjhnaapaaGreatDoorKc1
import Derived.Test.YtlefikdjhnaapaaGreatDoorKc2
import Derived.Test.YtlefikdjhnaapaaGreatDoorKc3
import Derived.Test.YtlefikdjhnaapaaGreatDoorKc4
import Derived.Test.YtlefikdjhnaapaaGreatDoorKc5
import Derived.Test.YtlefikdjhnaapaaGreatDoorKc6
import Derived.Test.YtlefikdjhnaapaaGreatDoorKc7
import Derived.Test.YtlefikdjhnaapaaGreatDoorKo1
import Derived.Test.YtlefikdjhnaapaaGreatDoorKo2
import Derived.Test.YtlefikdjhnaapaaGreatDoorKo3
import Derived.Test.YtlefikdjhnaapaaGreatDoorKo4
import Derived.SizedLaws
import Derived.Carry
import Derived.WalkKit
import Derived.ProofKit
import Derived.WalkSpells
import Derived.WalkLawsBesides
import Derived.Laws.OwnMore
import Derived.Laws.IdiomStrings
import Derived.Deep.Draws
import Derived.Deep.OwnRows
import Derived.StillTailTactics
import Derived.Test.YtlefikdjhnaapaaGreatDoorProg
import Derived.KernelRfl
import Derived.Deep.RegionLaw
import Derived.Lib.AppendStr
import Derived.Test.YtlefikdjhnaapaaGreatDoorChecked
import Derived.RangeFuncNested
import Derived.RangeFuncRecord
import Derived.OrdersIn
import Derived.TacticsIn
import Derived.MapKept
import Derived.Laws.MakeOwn
import Derived.Still
import Derived.Deep.LoopGhost
import Derived.Shelf.Strings.Builder1
import Derived.Shelf.Strings.Builder2
import Derived.Shelf.Strings.OnBuilder
import Derived.Shelf.Small.Bits
import Derived.Shelf.Strconv.Itoa0
import Derived.Shelf.Bits.Mul64
import Derived.Ground.Names2Prog
import Derived.Shelf.Slices.Clone
import Derived.Ground.SlgnProg
import Derived.Shelf.SlicesE.Clone
import Derived.Test.YtlefikdjhnaapaaGreatDoorCards
import Derived.Test.YtlefikdjhnaapaaGreatDoorTie
import Derived.OpenShut
import Derived.Deep.DeepHandedRow
import Derived.Lib.LaidTab
import Derived.Stop.LaidErr
import Derived.ShutString
import Derived.Lib.DecodeN
import Derived.Below
import Derived.ChangeSame
import Derived.Lib.Hide
import Derived.BigRegion
import Derived.RegionTactic
import Derived.BigQuiet
import Derived.Deep.RegionHeld3
import Derived.Deep.Strs
import Derived.Deep.Slices
import Derived.ChangeArms
import Derived.Laws.StructEq
import Derived.Laws.Strings
import Derived.Laws.PanicsMore
import Derived.Laws.Tables
set_option linter.unusedSectionVars false
set_option linter.unusedVariables false
set_option linter.unusedSimpArgs false
section
namespace Go.Proofs.YtlefikdjhnaapaaGreatDoor.slogOnce
open Go Go.RowKit Go.ChangeShapes Go.WideShapes Go.ChangeAt
open Go.ChangeMaps (setBlock shut_map_nil open_string shut_string keptBut_setBlock frozen?_setBlock heap_setBlock_same)
set_option maxRecDepth 100000
set_option maxHeartbeats 4000000
theorem said : Rows.SlogOnceSaid :=
 OpenClaim.holds_of_cond 4 Tryz.f4 rfl rfl rfl rfl rfl rfl rfl ⟨rfl, rfl, rfl, rfl, rfl⟩ rfl rfl rfl rfl rfl (by as_aux_lemma => kernel_rfl) Tryz.func4 (by
  unfold joinedFacts
  simp only [Bool.and_eq_true]
  repeat' apply And.intro
  all_goals as_aux_lemma => kernel_rfl)
  (of_decide_eq_true (by as_aux_lemma => kernel_rfl)) (by unfold Func.isWrapper; first | (rw [if_pos (by decide +kernel)]; kernel_rfl) | (rw [if_neg (by decide +kernel)]; exact ⟨rfl, rfl⟩))
  (fun os started H enc _ F => by rw [OpenClaim.pre_eq_preRow]; exact lifted os started H enc F)
theorem plain (f : FuncId) (fn : Func) (hf : Tryz.pinned.checked.prog.funcNamed "agora/agoralaw15.SlogOnce" = some f) (hfn : Tryz.pinned.checked.prog.funcs[f]? = some fn) :
  false = Tryz.pinned.checked.prog.looks [] ∧ ∀ (j : Nat) t, fn.params[j]? = some t → Tryz.pinned.checked.prog.wantsStandIn t = false := by
 obtain rfl : f = 4 := Option.some.inj ((show Tryz.prog.funcNamed "agora/agoralaw15.SlogOnce" = some 4 by kernel_rfl).symm.trans hf) |>.symm
 obtain rfl : fn = Tryz.f4 := (Option.some.inj (Tryz.func4.symm.trans hfn)).symm
 refine ⟨by kernel_rfl, fun j t ht => ?_⟩
 rw [Tryz.params4] at ht
 have hm : t ∈ [25, 60, 3] := by simpa using Array.mem_of_getElem? ht
 rcases List.mem_cons.1 hm with rfl | hm
 ·exact (show Tryz.prog.wantsStandIn 25 = false by kernel_rfl)
 rcases List.mem_cons.1 hm with rfl | hm
 ·exact (show Tryz.prog.wantsStandIn 60 = false by kernel_rfl)
 rcases List.mem_cons.1 hm with rfl | hm
 ·exact (show Tryz.prog.wantsStandIn 3 = false by kernel_rfl)
 cases hm
theorem card : Rows.SlogOnceCardSaid :=
 Claim7.holds_tied_plain_at .later [] _ _ _ _ said (fun _ h => by cases h) (by kernel_rfl) (fun _ h => by cases h) slogOnce_row_tie rfl ⟨rfl, rfl⟩ (by kernel_rfl) rfl plain (by kernel_rfl)
end Go.Proofs.YtlefikdjhnaapaaGreatDoor.slogOnce
end
