/- Several texts in one, without what this claim does not use (tools/shake.py). -/
import Derived.Test.YtlefikdjhnaapaaGreatDoorKc1
import Derived.Test.YtlefikdjhnaapaaGreatDoorKc2
import Derived.Test.YtlefikdjhnaapaaGreatDoorKc3
import Derived.Test.YtlefikdjhnaapaaGreatDoorKc4
import Derived.Test.YtlefikdjhnaapaaGreatDoorKc5
import Derived.Test.YtlefikdjhnaapaaGreatDoorKc6
import Derived.Test.YtlefikdjhnaapaaGreatDoorKc7
import Derived.Test.YtlefikdjhnaapaaGreatDoorKx1
import Derived.Test.YtlefikdjhnaapaaGreatDoorKx2
import Derived.Deep.RegionHeld3
import Derived.Shelf.Strings.Builder1
import Derived.Shelf.Strings.Builder2
import Derived.Shelf.Strings.OnBuilder
import Derived.Shelf.Small.Bits
import Derived.Shelf.Strconv.Itoa0
import Derived.Shelf.Bits.Mul64
import Derived.Ground.Names2Prog
import Derived.Shelf.Slices.Clone
import Derived.Ground.SlgnProg
import Derived.Shelf.SlicesE.Clone
import Derived.Test.YtlefikdjhnaapaaGreatDoorProg
import Derived.Test.YtlefikdjhnaapaaGreatDoorChecked
import Derived.WalkKit
import Derived.ProofKit
import Derived.WalkSpells
import Derived.Lib.Hide
import Derived.WalkLawsBesides
import Derived.BigRegion
import Derived.RegionTactic
import Derived.BigQuiet
import Derived.Deep.RegionLaw
import Derived.Laws.OwnMore
import Derived.Laws.IdiomStrings
import Derived.Deep.Draws
import Derived.Deep.OwnRows
import Derived.StillTailTactics
import Derived.Below
import Derived.ChangeSame
import Derived.OpenShut
import Derived.ShutString
import Derived.Deep.Strs
import Derived.SizedLaws
import Derived.Deep.Slices
import Derived.ChangeArms
import Derived.Lib.AppendStr
import Derived.RangeFuncNested
import Derived.RangeFuncRecord
import Derived.OrdersIn
import Derived.TacticsIn
import Derived.Laws.StructEq
import Derived.Laws.Strings
import Derived.Laws.PanicsMore
import Derived.Laws.Tables
import Derived.KernelRfl
import Derived.Lib.DecodeN
import Derived.MapKept
import Derived.Laws.MakeOwn
import Derived.Still
import Derived.Deep.LoopGhost
set_option linter.unusedSectionVars false
set_option linter.unusedVariables false
set_option linter.unusedSimpArgs false
section
namespace Go.Proofs.YtlefikdjhnaapaaGreatDoor.Pe
open Go Go.RowKit Co Sg Ac It Sl Ql
set_option maxRecDepth 100000
set_option maxHeartbeats 4000000
theorem shp_step {n us} (h : shp Tryz.prog 140737488351232 (n + 3) 44 us) : ∃ x : Stp, us = (stepV x).cells ∧ Win15 x := by
 have h := shp_struct Tryz.underlying44 h
 obtain ⟨a0, b0, rfl, h0, h⟩ := h
 obtain ⟨a1, b1, rfl, h1, h⟩ := h
 obtain ⟨a2, b2, rfl, h2, h⟩ := h
 obtain ⟨a3, b3, rfl, h3, rfl⟩ := h
 obtain ⟨i0, rfl, w0⟩ := shp_i64 Tryz.underlying3 h0
 obtain ⟨i1, rfl, w1⟩ := shp_i64 Tryz.underlying3 h1
 obtain ⟨i2, rfl, w2⟩ := shp_i64 Tryz.underlying3 h2
 obtain ⟨l3, rfl, w3⟩ := shp_intsI h3
 exact ⟨⟨i0, i1, i2, l3⟩, rfl, w0, w1, w2, by have := w3.1; omega⟩
theorem shp_steps {n us} (h : shp Tryz.prog 140737488351232 (n + 4) 23 us) : ∃ l : List Stp, us = [.sl .ro (l.map stepV)] ∧ l.length ≤ 140737488351232 ∧ ∀ x ∈ l, Win15 x :=
 shp_slice stepV Win15 Tryz.underlying23 h fun x hx => by
  obtain ⟨a, rfl, ha⟩ := shp_step hx
  exact ⟨a, by rw [show aggT Tryz.prog 44 = true from by kernel_rfl]; rfl, ha⟩
theorem shp_items {n us} (h : shp Tryz.prog 140737488351232 (n + 7) 22 us) : ∃ l : List It.Item, us = [.sl .ro (l.map itemV)] ∧ l.length ≤ 140737488351232 ∧ ∀ x ∈ l, Iz x :=
 shp_slice itemV Iz Tryz.underlying22 h fun x hx => by
  obtain ⟨a, rfl, ha⟩ := shp_itemI hx
  exact ⟨a, by rw [show aggT Tryz.prog 60 = true from by kernel_rfl]; rfl, ha.iz⟩
theorem shp_scr {n us} (h : shp Tryz.prog 140737488351232 (n + 8) 25 us) : ∃ s : Scr, us = (scrV s).cells ∧ WinS s := by
 have h := shp_struct Tryz.underlying25 h
 obtain ⟨a0, b0, rfl, h0, h⟩ := h
 obtain ⟨a1, b1, rfl, h1, h⟩ := h
 obtain ⟨a2, b2, rfl, h2, h⟩ := h
 obtain ⟨a3, b3, rfl, h3, rfl⟩ := h
 obtain ⟨s0, rfl, w0⟩ := shp_str Tryz.underlying9 h0
 obtain ⟨i1, rfl, w1⟩ := shp_i64 Tryz.underlying3 h1
 obtain ⟨l2, rfl, w2, w2'⟩ := shp_items h2
 obtain ⟨l3, rfl, w3, w3'⟩ := shp_steps h3
 exact ⟨⟨s0, i1, l2, l3⟩, rfl, w0, w1, w2, w3, w3', w2'⟩
end Go.Proofs.YtlefikdjhnaapaaGreatDoor.Pe
end
