/- Several texts in one, without what this claim does not use (tools/shake.py). -/
import Derived.Test.YtaphpbiaoofmkaaGreatDoorKw1
import Derived.Test.YtaphpbiaoofmkaaGreatDoorKw2
import Derived.Test.YtaphpbiaoofmkaaGreatDoorKw3
import Derived.SizedLaws
import Derived.Carry
import Derived.Shelf.SlIterI.Nil
import Derived.Shelf.SortM.Plain
import Derived.Shelf.SortM.SortNone
import Derived.Ground.GgzProg
import Derived.Ground.SlgmProg
import Derived.Shelf.SlGeneric
import Derived.Test.YtaphpbiaoofmkaaGreatDoorProg
import Derived.WalkKit
import Derived.Below
import Derived.ChangeSame
import Derived.ProofKit
import Derived.OpenShut
import Derived.ShutString
import Derived.Deep.Strs
import Derived.Deep.Slices
import Derived.ChangeArms
import Derived.Laws.Entries
import Derived.WalkSpells
import Derived.WalkLawsBesides
import Derived.Laws.OwnMore
import Derived.Laws.IdiomStrings
import Derived.Deep.Draws
import Derived.Deep.OwnRows
import Derived.StillTailTactics
import Derived.Test.YtaphpbiaoofmkaaGreatDoorChecked
import Derived.Lib.Hide
import Derived.BigRegion
import Derived.RegionTactic
import Derived.BigQuiet
import Derived.Deep.RegionLaw
import Derived.KernelRfl
import Derived.Deep.RegionHeld3
import Derived.MapKept
import Derived.Laws.MakeOwn
import Derived.Still
import Derived.Deep.LoopGhost
import Derived.Shelf.Strings.Builder1
import Derived.Shelf.Strings.Builder2
import Derived.Shelf.Strings.OnBuilder
import Derived.Shelf.Bits.Mul64
import Derived.Lib.AppendStr
import Derived.Lib.DecodeN
import Derived.Laws.StructEq
import Derived.Laws.Strings
import Derived.Laws.PanicsMore
import Derived.Laws.Tables
import Derived.Test.YtaphpbiaoofmkaaGreatDoorCards
import Derived.Test.YtaphpbiaoofmkaaGreatDoorTie
import Derived.Deep.DeepHandedRow
import Derived.Lib.LaidTab
import Derived.Stop.LaidErr
import Derived.Test.YtaphpbiaoofmkaaGreatDoorKr1
import Derived.Test.YtaphpbiaoofmkaaGreatDoorKr2
import Derived.Test.YtaphpbiaoofmkaaGreatDoorKr3
import Derived.Test.YtaphpbiaoofmkaaGreatDoorKr4
import Derived.Test.YtaphpbiaoofmkaaGreatDoorKr5
import Derived.Test.YtaphpbiaoofmkaaGreatDoorKr6
import Derived.Test.YtaphpbiaoofmkaaGreatDoorKr7
import Derived.Test.YtaphpbiaoofmkaaGreatDoorKr8
import Derived.Test.YtaphpbiaoofmkaaGreatDoorKr9
import Derived.Test.YtaphpbiaoofmkaaGreatDoorKr10
import Derived.Test.YtaphpbiaoofmkaaGreatDoorKr11
import Derived.Test.YtaphpbiaoofmkaaGreatDoorKr12
import Derived.Test.YtaphpbiaoofmkaaGreatDoorKr13
import Derived.Test.YtaphpbiaoofmkaaGreatDoorKr14
import Derived.Test.YtaphpbiaoofmkaaGreatDoorKr15
set_option linter.unusedSectionVars false
set_option linter.unusedVariables false
set_option linter.unusedSimpArgs false
section
namespace Go.Proofs.YtaphpbiaoofmkaaGreatDoor.tombGrows
open Go Go.RowKit Go.ChangeShapes Go.WideShapes Go.ChangeAt
open Go.ChangeMaps (setBlock shut_map_nil open_string shut_string keptBut_setBlock frozen?_setBlock heap_setBlock_same)
set_option maxRecDepth 100000
set_option maxHeartbeats 4000000
theorem said : Rows.TombGrowsSaid :=
 OpenClaim.holds_of_cond 9 Tryz.f9 rfl rfl rfl rfl rfl rfl rfl ⟨rfl, rfl, rfl, rfl, rfl⟩ rfl rfl rfl rfl rfl (by as_aux_lemma => kernel_rfl) Tryz.func9 (by
  unfold joinedFacts
  simp only [Bool.and_eq_true]
  repeat' apply And.intro
  all_goals as_aux_lemma => kernel_rfl)
  (of_decide_eq_true (by as_aux_lemma => kernel_rfl)) (by unfold Func.isWrapper; first | (rw [if_pos (by decide +kernel)]; kernel_rfl) | (rw [if_neg (by decide +kernel)]; exact ⟨rfl, rfl⟩))
  (fun os started H enc _ F => by rw [OpenClaim.pre_eq_preRow]; exact lifted os started H enc F)
theorem plain (f : FuncId) (fn : Func) (hf : Tryz.pinned.checked.prog.funcNamed "agora/agoralaw29.TombGrows" = some f) (hfn : Tryz.pinned.checked.prog.funcs[f]? = some fn) :
  false = Tryz.pinned.checked.prog.looks [] ∧ ∀ (j : Nat) t, fn.params[j]? = some t → Tryz.pinned.checked.prog.wantsStandIn t = false := by
 obtain rfl : f = 9 := Option.some.inj ((show Tryz.prog.funcNamed "agora/agoralaw29.TombGrows" = some 9 by kernel_rfl).symm.trans hf) |>.symm
 obtain rfl : fn = Tryz.f9 := (Option.some.inj (Tryz.func9.symm.trans hfn)).symm
 refine ⟨by kernel_rfl, fun j t ht => ?_⟩
 rw [Tryz.params9] at ht
 have hm : t ∈ [50, 9, 79, 3, 3, 80, 80] := by simpa using Array.mem_of_getElem? ht
 rcases List.mem_cons.1 hm with rfl | hm
 ·exact (show Tryz.prog.wantsStandIn 50 = false by kernel_rfl)
 rcases List.mem_cons.1 hm with rfl | hm
 ·exact (show Tryz.prog.wantsStandIn 9 = false by kernel_rfl)
 rcases List.mem_cons.1 hm with rfl | hm
 ·exact (show Tryz.prog.wantsStandIn 79 = false by kernel_rfl)
 rcases List.mem_cons.1 hm with rfl | hm
 ·exact (show Tryz.prog.wantsStandIn 3 = false by kernel_rfl)
 rcases List.mem_cons.1 hm with rfl | hm
 ·exact (show Tryz.prog.wantsStandIn 3 = false by kernel_rfl)
 rcases List.mem_cons.1 hm with rfl | hm
 ·exact (show Tryz.prog.wantsStandIn 80 = false by kernel_rfl)
 rcases List.mem_cons.1 hm with rfl | hm
 ·exact (show Tryz.prog.wantsStandIn 80 = false by kernel_rfl)
 cases hm
theorem card : Rows.TombGrowsCardSaid :=
 Claim7.holds_tied_plain_at .later [] _ _ _ _ said (fun _ h => by cases h) (by kernel_rfl) (fun _ h => by cases h) tombGrows_row_tie rfl ⟨rfl, rfl⟩ (by kernel_rfl) rfl plain (by kernel_rfl)
end Go.Proofs.YtaphpbiaoofmkaaGreatDoor.tombGrows
end
