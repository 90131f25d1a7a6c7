/- Several texts in one, without what this claim does not use (tools/shake.py). -/
import Derived.Test.YtaphpbiaoofmkaaGreatDoorKp1
import Derived.Test.YtaphpbiaoofmkaaGreatDoorKp2
import Derived.SizedLaws
import Derived.Carry
import Derived.Lib.DecodeN
import Derived.Test.YtaphpbiaoofmkaaGreatDoorProg
import Derived.KernelRfl
import Derived.Lib.AppendStr
import Derived.Shelf.SlIterI.Nil
import Derived.Shelf.SortM.Plain
import Derived.Shelf.SortM.SortNone
import Derived.Ground.GgzProg
import Derived.Ground.SlgmProg
import Derived.Shelf.SlGeneric
import Derived.Deep.Draws
import Derived.Laws.StructEq
import Derived.Laws.Strings
import Derived.Laws.PanicsMore
import Derived.Laws.Tables
import Derived.Shelf.Strings.Builder1
import Derived.Shelf.Strings.Builder2
import Derived.Shelf.Strings.OnBuilder
import Derived.Shelf.Bits.Mul64
import Derived.Test.YtaphpbiaoofmkaaGreatDoorChecked
import Derived.WalkKit
import Derived.ProofKit
import Derived.WalkSpells
import Derived.Lib.Hide
import Derived.WalkLawsBesides
import Derived.BigRegion
import Derived.RegionTactic
import Derived.BigQuiet
import Derived.Deep.RegionLaw
import Derived.Test.YtaphpbiaoofmkaaGreatDoorCards
import Derived.Test.YtaphpbiaoofmkaaGreatDoorTie
import Derived.OpenShut
import Derived.Deep.DeepHandedRow
import Derived.Lib.LaidTab
import Derived.Stop.LaidErr
import Derived.ShutString
import Derived.Below
import Derived.ChangeSame
import Derived.Deep.Strs
import Derived.Deep.Slices
import Derived.ChangeArms
import Derived.Laws.Entries
import Derived.Deep.RegionHeld3
import Derived.MapKept
import Derived.Laws.MakeOwn
import Derived.Still
import Derived.Deep.LoopGhost
import Derived.Laws.OwnMore
import Derived.Laws.IdiomStrings
import Derived.Deep.OwnRows
import Derived.StillTailTactics
import Derived.Test.YtaphpbiaoofmkaaGreatDoorKr1
import Derived.Test.YtaphpbiaoofmkaaGreatDoorKr2
import Derived.Test.YtaphpbiaoofmkaaGreatDoorKr3
import Derived.Test.YtaphpbiaoofmkaaGreatDoorKr4
import Derived.Test.YtaphpbiaoofmkaaGreatDoorKr5
import Derived.Test.YtaphpbiaoofmkaaGreatDoorKr6
import Derived.Test.YtaphpbiaoofmkaaGreatDoorKr7
import Derived.Test.YtaphpbiaoofmkaaGreatDoorKr8
import Derived.Test.YtaphpbiaoofmkaaGreatDoorKr9
import Derived.Test.YtaphpbiaoofmkaaGreatDoorKr10
import Derived.Test.YtaphpbiaoofmkaaGreatDoorKr11
import Derived.Test.YtaphpbiaoofmkaaGreatDoorKr12
import Derived.Test.YtaphpbiaoofmkaaGreatDoorKr13
import Derived.Test.YtaphpbiaoofmkaaGreatDoorKr14
import Derived.Test.YtaphpbiaoofmkaaGreatDoorKr15
set_option linter.unusedSectionVars false
set_option linter.unusedVariables false
set_option linter.unusedSimpArgs false
section
namespace Go.Proofs.YtaphpbiaoofmkaaGreatDoor.tombProves
open Go Go.RowKit Go.ChangeShapes Go.WideShapes Go.ChangeAt
open Go.ChangeMaps (setBlock shut_map_nil open_string shut_string keptBut_setBlock frozen?_setBlock heap_setBlock_same)
set_option maxRecDepth 100000
theorem laid_met (os : Os) : laidMet Tryz.prog Rows.tombProvesRow.laid ((laidWorld os).forCall (fun _ _ => 0) ⟨#[], #[.string ⟨#[]⟩, .string ⟨#[]⟩, .slice none 0 0, .int .i64 0, .int .i64 0], []⟩).memory :=
 laidMet_of_run' 8 (by kernel_rfl) (by kernel_rfl)
theorem reads (os : Os) {H : Type} (enc : TypeId × Value → H) : ∃ places, DataW.whole enc Tryz.prog ((laidWorld os).forCall (fun _ _ => 0) ⟨#[], #[.string ⟨#[]⟩, .string ⟨#[]⟩, .slice none 0 0, .int .i64 0, .int .i64 0], []⟩).memory Tryz.f7.params.toList Rows.tombProvesSpec.vars false #[Value.string ⟨#[]⟩, Value.string ⟨#[]⟩, Value.slice none 0 0, Value.int .i64 0, Value.int .i64 0].toList 8 = some ([.lit (.string []), .lit (.string []), .nil, .lit (.int .i64 0), .lit (.int .i64 0)], [], places) :=
 ⟨[], by kernel_rfl⟩
theorem lifted (os : Os) (started : os.Started) (H : Type) (enc : TypeId × Value → H) (F : Stop.Interp) :
  ReturnsInHanded {} Tryz.checked os 7 .any ((OpenSpec.ofChange Rows.tombProvesSpec).preRow enc Tryz.prog Tryz.f7 Rows.tombProvesRow.domain false Rows.tombProvesRow.laid) (((OpenSpec.ofChange Rows.tombProvesSpec).at F).post enc Tryz.prog Tryz.f7 false true false false) := by
 obtain ⟨places, hx⟩ := reads os enc
 refine returnsInHanded_of_row (C := Tryz.checked) (s := OpenSpec.ofChange Rows.tombProvesSpec) own started (by kernel_rfl) Tryz.func7
  (witness_row_at (enc := enc) (C := Tryz.checked) false (laidWorld os) #[.string ⟨#[]⟩, .string ⟨#[]⟩, .slice none 0 0, .int .i64 0, .int .i64 0] rfl (by kernel_rfl) (by kernel_rfl) (by kernel_rfl)
   (OpenSpec.preRow_of_cond 8 hx (by kernel_rfl) (fun k hk => by cases hk) (by kernel_rfl) (laid_met os))) ?_
 intro W base args ds gs before hval hW _ _ hR hL _ _
 exact contract H enc W base args ds gs before hval hW hR hL
end Go.Proofs.YtaphpbiaoofmkaaGreatDoor.tombProves
end
